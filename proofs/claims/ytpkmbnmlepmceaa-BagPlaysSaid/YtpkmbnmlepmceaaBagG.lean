/- No bag; the walk of BagNil. -/
import Derived.Test.YtpkmbnmlepmceaaBagF

namespace Go.Proofs.Ytpkmbnmlepmceaa
open Go.RowKit Go.Shelf
set_option linter.unusedSimpArgs false
set_option linter.unusedVariables false
set_option maxHeartbeats 8000000
set_option maxRecDepth 100000

theorem hasNil (i : Int) (w : World) : Calls Try.prog 26 #[.pointer none, .int .i64 i] w fun e w' => e = .returned (.bool false) ∧ w = w' := by
  go_enter Try.func26, Try.ntmps26
  go_wp2_with (fail)
  go_ret
  exact ⟨rfl, rfl⟩
theorem putNil (x : Int) (w : World) : Calls Try.prog 8 #[.pointer none, .int .i64 x] w fun e w' => e = .returned (.tuple #[.int .i64 0, .int .i64 2]) ∧ w = w' := by
  go_enter Try.func8, Try.ntmps8
  go_wp2_with (fail)
  go_ret2
  exact ⟨rfl, rfl⟩
theorem twiceNil (x : Int) (w : World) : Calls Try.prog 14 #[.pointer none, .int .i64 x] w fun e w' => e = .returned (.tuple #[.int .i64 0, .int .i64 2]) ∧ w = w' := by
  go_enter Try.func14, Try.ntmps14
  go_wp2_with (fail)
  go_ret2
  exact ⟨rfl, rfl⟩
theorem atNil (x : Int) (w : World) : Calls Try.prog 21 #[.pointer none, .int .i64 x] w fun e w' => e = .returned (.tuple #[.int .i64 0, .bool false]) ∧ w = w' := by
  go_enter Try.func21, Try.ntmps21
  go_wp2_with (first | (go_at_call 26; refine (hasNil _ _).mono ?_; rintro e w' ⟨rfl, rfl⟩) | fail)
  go_ret2
  exact ⟨rfl, rfl⟩
theorem takeNil (x : Int) (w : World) : Calls Try.prog 10 #[.pointer none, .int .i64 x] w fun e w' => e = .returned (.tuple #[.int .i64 0, .bool false]) ∧ w = w' := by
  go_enter Try.func10, Try.ntmps10
  go_wp2_with (first | (go_at_call 21; refine (atNil _ _).mono ?_; rintro e w' ⟨rfl, rfl⟩) | fail)
  go_ret2
  exact ⟨rfl, rfl⟩
theorem setNil (i x : Int) (w : World) : Calls Try.prog 22 #[.pointer none, .int .i64 i, .int .i64 x] w fun e w' => e = .returned (.bool false) ∧ w = w' := by
  go_enter Try.func22, Try.ntmps22
  go_wp2_with (first | (go_at_call 26; refine (hasNil _ _).mono ?_; rintro e w' ⟨rfl, rfl⟩) | fail)
  go_ret
  exact ⟨rfl, rfl⟩
theorem noNil (i : Int) (w : World) : Calls Try.prog 17 #[.pointer none, .int .i64 i] w fun e w' => e = .returned (.int .i64 0) ∧ w = w' := by
  go_enter Try.func17, Try.ntmps17
  go_wp2_with (first | (go_at_call 26; refine (hasNil _ _).mono ?_; rintro e w' ⟨rfl, rfl⟩) | fail)
  go_ret
  exact ⟨rfl, rfl⟩
theorem lenNil (w : World) : Calls Try.prog 11 #[.pointer none] w fun e w' => e = .returned (.int .i64 0) ∧ w = w' := by
  go_enter Try.func11, Try.ntmps11
  go_wp2_with (fail)
  go_ret
  exact ⟨rfl, rfl⟩
theorem lastNil (w : World) : Calls Try.prog 12 #[.pointer none] w fun e w' => e = .returned (.int .i64 0) ∧ w = w' := by
  go_enter Try.func12, Try.ntmps12
  go_wp2_with (fail)
  go_ret
  exact ⟨rfl, rfl⟩
theorem uptoNil (i : Int) (w : World) : Calls Try.prog 18 #[.pointer none, .int .i64 i] w fun e w' => e = .returned (.int .i64 0) ∧ w = w' := by
  go_enter Try.func18, Try.ntmps18
  go_wp2_with (fail)
  go_ret
  exact ⟨rfl, rfl⟩
theorem keepNil (w : World) : Calls Try.prog 15 #[.pointer none, .func (.func 16) #[] #[]] w fun e w' => e = .returned (.int .i64 0) ∧ Below w.heap.size w w' := by
  go_enter Try.func15, Try.ntmps15
  go_wp2_with (fail)
  go_ret
  exact ⟨rfl, (Below.refl _ _).alloc (Nat.le_refl _) _⟩
attribute [local go_sem] Oper.semAt_some in
theorem allNil1 (n l Bs : Nat) (J : List (Int × Int) → World → Prop) (W : World) (hBs : W.cell? ⟨Bs, 0, none⟩ = some (.pointer none)) (h0 : J [] W) :
    CallsIn Fence.wide n Try.prog 23 #[.func (.yield l) #[] #[], .pointer (some ⟨Bs, 0, none⟩)] W fun e W' => (∃ v, e = .returned v) ∧ J [] W' := by
  refine callsIn_of_wp Try.func23 rfl trivial ?_ rfl
  simp only [Try.ntmps23, List.size_toArray, List.length_cons, List.length_nil, Nat.reduceAdd, Nat.reduceSub, Array.replicate_succ, Array.replicate_zero, List.push_toArray, List.append_toArray, List.nil_append, List.cons_append]
  gi_wp2
  refine bodyPost_ret (results_none rfl _ _ _) rfl ?_
  exact ⟨⟨_, rfl⟩, h0⟩
theorem allNil (n Bs : Nat) (w : World) (hBl : Bs < w.heap.size) (hBs : w.cell? ⟨Bs, 0, none⟩ = some (.pointer none)) (enc : Int × Int → Array Value) (Kp : World → World → Prop) :
    SeqStopsK Fence.wide n Try.prog 23 #[.pointer (some ⟨Bs, 0, none⟩)] enc Kp (fun ys => ys = []) (fun pre => False) 0 w := fun l J Jx W hW hJ _ hY h0 => by
  refine (allNil1 n l Bs J W ((hW.cell (p := ⟨Bs, 0, none⟩) hBl).trans hBs) h0).mono ?_
  rintro e W' ⟨he, hj⟩
  exact ⟨he, .inl ⟨_, rfl, hj⟩⟩

attribute [local go_sem] Oper.semAt_some in
theorem bagNil_law (i x : Int) (w : World) : Calls Try.prog 6 #[.int .i64 i, .int .i64 x] w fun e w' => e = .returned (.bool true) ∧ Below w.heap.size w w' := by
  have hmf : ∀ (fn : Fn) (first cap : Array Value) (w : World), (Instr.makeFunc fn first cap).run Try.prog w = .ok (.func fn first cap) w := fun _ _ _ _ => rfl
  have hfn := func_nil
  refine callsIn_wide.1 (callsIn_of_wp_marks (F := Fence.wide) (n := 9) Try.func6 rfl trivial (wpIn_wide.2 ?_) rfl)
  simp only [Try.ntmps6, List.size_toArray, List.length_cons, List.length_nil, Nat.reduceAdd, Nat.reduceSub, Array.replicate_succ, Array.replicate_zero, List.push_toArray, List.append_toArray, List.nil_append, List.cons_append]
  go_wp2_with (first | (go_at_call 8; refine (putNil _ _).mono ?_; rintro e w' ⟨rfl, rfl⟩) | (go_at_call 14; refine (twiceNil _ _).mono ?_; rintro e w' ⟨rfl, rfl⟩) | (go_at_call 10; refine (takeNil _ _).mono ?_; rintro e w' ⟨rfl, rfl⟩) | (go_at_call 21; refine (atNil _ _).mono ?_; rintro e w' ⟨rfl, rfl⟩) | (go_at_call 9; refine (all_any none _).mono ?_; rintro e w' ⟨rfl, rfl⟩) | fail)
  have hR0 : Hid (Blk ((w.alloc (.cells #[.bool false] 4)).alloc (.cells #[.pointer none] 23)) w.heap.size 4 #[.bool false]) := Lib.hid ((Blk.new w _ _).alloc _)
  have hX0 : Hid (((w.alloc (.cells #[.bool false] 4)).alloc (.cells #[.pointer none] 23)).cell? ⟨w.heap.size + 1, 0, none⟩ = some (.pointer none)) := Lib.hid (by
    have := Blk.new (w.alloc (.cells #[.bool false] 4)) 23 #[.pointer none]
    simp only [World.size_alloc] at this
    exact this.cell 0)
  have hB0 : Hid (Below w.heap.size w ((w.alloc (.cells #[.bool false] 4)).alloc (.cells #[.pointer none] 23))) := Lib.hid (((Below.refl _ _).alloc (Nat.le_refl _) _).alloc (by simp) _)
  have hs0 : ((w.alloc (.cells #[.bool false] 4)).alloc (.cells #[.pointer none] 23)).heap.size = w.heap.size + 1 + 1 := by simp
  generalize (w.alloc (.cells #[.bool false] 4)).alloc (.cells #[.pointer none] 23) = W0 at *
  obtain ⟨rB, hrB⟩ : ∃ rB, rB = w.heap.size := ⟨_, rfl⟩
  rw [← hrB] at hR0 hX0 hs0 ⊢
  have hrw : w.heap.size ≤ rB := by omega
  clear hrB
  refine wpIn_wide.1 (wpIn_rangeFunc_ownG (F := Fence.wide) (n := 9) rfl (by omega) (gf := 23) (lb := #[.pointer (some ⟨rB + 1, 0, none⟩)]) rfl trivial (enters_of Try.func23 (by kernel_rfl) rfl)
    (allNil 8 (rB + 1) W0 (by omega) hX0.out encI (fun _ _ => True)) (fun _ _ => trivial) (fun _ _ _ _ _ _ _ _ => trivial) (Below.refl _ _) (fun _ => rfl)
    (fun pre W => Blk W rB 4 #[.bool false] ∧ Below w.heap.size w W) (fun _ _ _ => False) ?hI (fun _ _ _ _ _ h _ _ => h) ⟨hR0.out, hB0.out⟩ ?a1 ?assign ?body ?done ?stop)
  case hI =>
    rintro pre W W' row ⟨h1, h2⟩ hg hr
    exact ⟨h1.turned hg (fun r e => (hr r e).2), h2.grown hg h2.size (fun k hk => by have := (hr k hk).1; omega)⟩
  case assign =>
    intro l x W K hK
    simp only [encI]
    gi_wp2
    exact hK
  case body =>
    rintro l pre x W _ h
    exact absurd h (Nat.not_lt_zero _)
  case stop =>
    rintro D e pre W _ h
    exact h.elim
  case done =>
    rintro D ys W hD rfl ⟨h1, h2⟩ hK
    have HR := Lib.hid h1
    have HB := Lib.hid h2
    have HK := Lib.hid hK
    have d4 : W.cell? ⟨rB, 0, none⟩ = some (.bool false) := HR.out.cell 0
    have f4 := HR.out.frozen 0
    clear h1 h2 hK
    go_wp2_with (first
      | (go_at_call 22; refine (setNil _ _ _).mono ?_; rintro e w' ⟨rfl, rfl⟩)
      | (go_at_call 17; refine (noNil _ _).mono ?_; rintro e w' ⟨rfl, rfl⟩)
      | (go_at_call 11; refine (lenNil _).mono ?_; rintro e w' ⟨rfl, rfl⟩)
      | (go_at_call 18; refine (uptoNil _ _).mono ?_; rintro e w' ⟨rfl, rfl⟩)
      | (go_at_call 12; refine (lastNil _).mono ?_; rintro e w' ⟨rfl, rfl⟩)
      | (go_at_call 15; refine (keepNil _).mono ?_; rintro e W2 ⟨rfl, h⟩; have HR2 := Lib.hid (HR.out.below h HR.out.lt); have HB2 := Lib.hid (HB.out.trans (h.mono HB.out.size)); have HK2 := Lib.hid ((h.block D (Array.getElem?_eq_some_iff.1 HK.out).1).trans HK.out); clear h d4 f4)
      | (go_at_call 13; refine (awake_any _).mono ?_; rintro e W3 ⟨rfl, h⟩; have HR3 := Lib.hid (HR2.out.below h HR2.out.lt); have HB3 := Lib.hid (HB2.out.trans (h.mono HB2.out.size)); have HK3 := Lib.hid ((h.block D (Array.getElem?_eq_some_iff.1 HK2.out).1).trans HK2.out); have d4 : W3.cell? ⟨rB, 0, none⟩ = some (.bool false) := HR3.out.cell 0; have f4 := HR3.out.frozen 0; clear h)
      | fail)
    have hKD : Hid ((W3.setCell ⟨rB, 0, none⟩ (.bool true)).heap[D]? = some (.deferred (some []))) := Lib.hid ((KeepsOthers.setCell _ _ _).same D _ HK3.out rfl)
    have hR9 : Hid ((W3.setCell ⟨rB, 0, none⟩ (.bool true)).cell? ⟨rB, 0, none⟩ = some (.bool true)) := Lib.hid (World.cell?_setCell_same _ _ _ d4)
    have hB9 : Hid (Below w.heap.size w (W3.setCell ⟨rB, 0, none⟩ (.bool true))) := Lib.hid (HB3.out.setCell (p := ⟨rB, 0, none⟩) hrw _)
    refine ⟨by simp, .inl ⟨_, _, rfl, run_takeDeferred hKD.out, ?_⟩⟩
    have hc9 := cell_kept hR9.out (grownBy_putObj' _ D (.deferred none)) (fun r e => by cases e; exact ⟨_, hKD.out, rfl⟩)
    exact ⟨.bool true, by simp [results, Try.results6, go_sem, hc9], rfl, hB9.out.trans (belowK_b (w := w) (Nat.le_refl _) _ D _ _ (by omega) hKD.out rfl rfl)⟩
end Go.Proofs.Ytpkmbnmlepmceaa
