/- A lazy value of uint64: Of, Get, Runs. -/
import Derived.Test.YtfkjdeiimlincaaLatD
namespace Go.Proofs.Ytfkjdeiimlincaa
open Go.RowKit
set_option linter.unusedSimpArgs false
set_option linter.unusedVariables false
set_option maxRecDepth 100000
set_option maxHeartbeats 8000000

theorem slowM_any (g fid : Nat) (hent : ∀ (args : Array Value) (w : World), (callFunc fid args).run Try.prog w = .ok (.enter fid args) w) (r : Value) (R : World → Prop) (w : World)
    (h0 : w.cell? ⟨g, 0, none⟩ = some (.int .u32 0)) (h1 : w.cell? ⟨g, 1, none⟩ = some (.int .i32 0)) (f1 : w.frozen? ⟨g, 1, none⟩ = false)
    (hcl : Calls Try.prog fid #[r] (w.setCell ⟨g, 1, none⟩ (.int .i32 1)) fun e w2 => e = .returned (.tuple #[]) ∧ R w2)
    (hR : ∀ w2, R w2 → (w2.cell? ⟨g, 0, none⟩ = some (.int .u32 0) ∧ w2.frozen? ⟨g, 0, none⟩ = false) ∧ w2.cell? ⟨g, 1, none⟩ = some (.int .i32 1) ∧ w2.frozen? ⟨g, 1, none⟩ = false) :
    Calls Try.prog 25 #[.pointer (some ⟨g, 0, none⟩), .func (.func fid) #[r] #[]] w fun e w' => e = .returned (.tuple #[]) ∧ ∃ w2, R w2 ∧ w' = onced w2 g := by
  have h01 : (w.setCell ⟨g, 1, none⟩ (.int .i32 1)).cell? ⟨g, 0, none⟩ = some (.int .u32 0) := (World.cell?_setCell_other _ ⟨g, 1, none⟩ ⟨g, 0, none⟩ _ (by simp)).trans h0
  have hnot := run_not
  have C := Lib.hid hcl
  have HR := Lib.hid hR
  clear hcl hR
  go_enter_defers Try.func25, Try.ntmps25
  go_wp2_with (first
    | (go_at_call 32; refine (lock_free ⟨g, 1, none⟩ _ h1 f1).mono ?_; rintro e w' ⟨rfl, rfl⟩)
    | (go_at_call 19; refine (bload_any ⟨g, 0, none⟩ 0 _ h01).mono ?_; rintro e w' ⟨rfl, rfl⟩)
    | fail)
  have C' : Hid (Calls Try.prog fid #[r] (w.setCell ⟨g, 1, none⟩ (.int .i32 1)) fun e w2 => e = .returned (.tuple #[]) ∧ R w2) := Lib.hid (by simpa using C.out)
  clear C
  refine C'.out.mono ?_
  rintro e w2 ⟨rfl, hw2⟩
  obtain ⟨⟨k0, z0⟩, k1, z1⟩ := HR.out w2 hw2
  go_wp2
  refine leaves_cons (f := 18) (args := #[.pointer (some ⟨g, 0, none⟩), .bool true]) (by simp) (by simp [go_sem]) ?_
  refine (store_deferred ⟨g, 0, none⟩ (.int .u32 0) .returning _ k0 z0).mono ?_
  rintro e u' w'' ⟨rfl, rfl, rfl⟩
  refine leaves_cons (f := 33) (args := #[.pointer (some ⟨g, 1, none⟩)]) (by simp [settle]) (by simp [go_sem]) ?_
  refine (unlock_deferred ⟨g, 1, none⟩ _ _ ?_ ?_).mono ?_
  · refine (World.cell?_setCell_other _ ⟨g, 0, none⟩ ⟨g, 1, none⟩ _ (by simp)).trans ?_
    rw [World.cell?_drew]
    exact k1
  · rw [World.frozen?_setCell]; exact z1
  rintro e u' w'' ⟨rfl, rfl, rfl⟩
  simp [Leaves, settle, results, Try.results25]
  exact ⟨w2, hw2, rfl⟩
theorem doM_first (g fid : Nat) (hent : ∀ (args : Array Value) (w : World), (callFunc fid args).run Try.prog w = .ok (.enter fid args) w) (r : Value) (R : World → Prop) (w : World)
    (h0 : w.cell? ⟨g, 0, none⟩ = some (.int .u32 0)) (h1 : w.cell? ⟨g, 1, none⟩ = some (.int .i32 0)) (f1 : w.frozen? ⟨g, 1, none⟩ = false)
    (hcl : Calls Try.prog fid #[r] (w.setCell ⟨g, 1, none⟩ (.int .i32 1)) fun e w2 => e = .returned (.tuple #[]) ∧ R w2)
    (hR : ∀ w2, R w2 → (w2.cell? ⟨g, 0, none⟩ = some (.int .u32 0) ∧ w2.frozen? ⟨g, 0, none⟩ = false) ∧ w2.cell? ⟨g, 1, none⟩ = some (.int .i32 1) ∧ w2.frozen? ⟨g, 1, none⟩ = false) :
    Calls Try.prog 16 #[.pointer (some ⟨g, 0, none⟩), .func (.func fid) #[r] #[]] w fun e w' => e = .returned (.tuple #[]) ∧ ∃ w2, R w2 ∧ w' = onced w2 g := by
  have S := Lib.hid (slowM_any g fid hent r R w h0 h1 f1 hcl hR)
  have hnot := run_not
  have hB := Lib.hid (bload_any ⟨g, 0, none⟩ 0 w h0)
  clear hcl hR h1 f1
  go_enter Try.func16, Try.ntmps16
  go_wp2_with (first | (go_at_call 19; refine hB.out.mono ?_; rintro e w' ⟨rfl, rfl⟩) | fail)
  refine S.out.mono ?_
  rintro e w2 ⟨rfl, h⟩
  go_wp2
  go_end0
  exact ⟨rfl, h⟩

def LzAt (w : World) (g : Nat) (mk : Value) (d : Bool) (r v : Int) : Prop := Blk w g 68 #[.int .u32 (if d then 1 else 0), .int .i32 0, .int .u32 0, mk, .int .i32 r, .int .u64 v]
theorem ofF_any (fid : Nat) (caps : Array Value) (w : World) : Calls Try.prog 12 #[.func (.func fid) #[] caps] w fun e w' => e = .returned (.pointer (some ⟨w.heap.size, 0, none⟩)) ∧ LzAt w' w.heap.size (.func (.func fid) #[] caps) false 0 0 ∧ Below w.heap.size w w' := by
  go_enter Try.func12, Try.ntmps12
  go_wp2
  go_ret
  exact ⟨rfl, Blk.new _ _ _, (Below.refl _ _).alloc (Nat.le_refl _) _⟩
theorem ofN_any (w : World) : Calls Try.prog 12 #[.nilFunc] w fun e w' => e = .returned (.pointer (some ⟨w.heap.size, 0, none⟩)) ∧ LzAt w' w.heap.size .nilFunc false 0 0 ∧ Below w.heap.size w w' := by
  go_enter Try.func12, Try.ntmps12
  go_wp2
  go_ret
  exact ⟨rfl, Blk.new _ _ _, (Below.refl _ _).alloc (Nat.le_refl _) _⟩
theorem runs_any (g : Nat) (mk : Value) (d : Bool) (r v : Int) (w : World) (h : LzAt w g mk d r v) (h0 : 0 ≤ r) (h1 : r ≤ 1000) :
    Calls Try.prog 14 #[.pointer (some ⟨g, 0, none⟩)] w fun e w' => e = .returned (.int .i64 r) ∧ w = w' := by
  have c4 : w.cell? ⟨g, 4, none⟩ = some (.int .i32 r) := h.cell 4
  have hl := run_call_load (P := Try.prog) Try.func30 (by kernel_rfl) (by kernel_rfl) (by kernel_rfl) .i32 (by kernel_rfl) c4
  have hw : IntKind.i64.wrap r = r := by rw [IntKind.wrap_i64]; omega
  clear h
  go_enter Try.func14, Try.ntmps14
  go_wp2
  go_ret
  exact ⟨rfl, rfl⟩
theorem mkF_any (vB : Nat) (v : Int) (w : World) (h : w.cell? ⟨vB, 0, none⟩ = some (.int .u64 v)) : Calls Try.prog 13 #[.pointer (some ⟨vB, 0, none⟩)] w fun e w' => e = .returned (.int .u64 v) ∧ w = w' := by
  go_enter Try.func13, Try.ntmps13
  go_wp2
  go_ret
  exact ⟨rfl, rfl⟩
theorem func_ne (fn : Fn) (first cap : Array Value) (w : World) : (binOp .neq 41 (.func fn first cap) .nilFunc).run Try.prog w = .ok (.bool true) w := by kernel_rfl
theorem nil_ne (w : World) : (binOp .neq 41 .nilFunc .nilFunc).run Try.prog w = .ok (.bool false) w := by kernel_rfl
theorem add_any (a : Addr) (w : World) (hc : w.cell? a = some (.int .i32 0)) (hz : w.frozen? a = false) : Calls Try.prog 31 #[.pointer (some a), .int .i32 1] w fun e w' => e = .returned (.int .i32 1) ∧ w' = w.setCell a (.int .i32 1) := by
  have hadd := run_call_add (P := Try.prog) Try.func34 (by kernel_rfl) (by kernel_rfl) (by kernel_rfl) .i32 (by kernel_rfl) (y := 1) (s := 1) hc hz (by simp [go_sem]; rfl)
  go_enter Try.func31, Try.ntmps31
  go_wp2
  go_ret
  exact ⟨rfl, rfl⟩
theorem fillN_any (g : Nat) (w : World) (hg : w.cell? ⟨g, 3, none⟩ = some .nilFunc) : Calls Try.prog 24 #[.pointer (some ⟨g, 0, none⟩)] w fun e w' => e = .returned (.tuple #[]) ∧ w = w' := by
  have hn := nil_ne
  go_enter Try.func24, Try.ntmps24
  go_wp2_with (fail)
  go_end0
  exact ⟨rfl, rfl⟩
theorem fillF_any (g vB : Nat) (v : Int) (w : World) (hv : Blk w vB 25 #[.int .u64 v])
    (hg : Blk w g 68 #[.int .u32 0, .int .i32 1, .int .u32 0, .func (.func 13) #[] #[.pointer (some ⟨vB, 0, none⟩)], .int .i32 0, .int .u64 0]) :
    Calls Try.prog 24 #[.pointer (some ⟨g, 0, none⟩)] w fun e w' => e = .returned (.tuple #[]) ∧ w' = (w.setCell ⟨g, 4, none⟩ (.int .i32 1)).setCell ⟨g, 5, none⟩ (.int .u64 v) := by
  have hn := func_ne
  have n1 : vB ≠ g := Blk.ne_ hv hg (by decide)
  have c3 : w.cell? ⟨g, 3, none⟩ = some (.func (.func 13) #[] #[.pointer (some ⟨vB, 0, none⟩)]) := hg.cell 3
  have hg2 := hg.set_ 4 (.int .i32 1)
  have d3 : (w.setCell ⟨g, 4, none⟩ (.int .i32 1)).cell? ⟨g, 3, none⟩ = some (.func (.func 13) #[] #[.pointer (some ⟨vB, 0, none⟩)]) := hg2.cell 3
  have d5 : (w.setCell ⟨g, 4, none⟩ (.int .i32 1)).cell? ⟨g, 5, none⟩ = some (.int .u64 0) := hg2.cell 5
  have f5 := hg2.frozen 5
  have e0 : (w.setCell ⟨g, 4, none⟩ (.int .i32 1)).cell? ⟨vB, 0, none⟩ = some (.int .u64 v) := (hv.far (p := ⟨g, 4, none⟩) n1 _).cell 0
  have A := Lib.hid (add_any ⟨g, 4, none⟩ w (hg.cell 4) (hg.frozen 4))
  have M := Lib.hid (mkF_any vB v _ e0)
  clear hv hg hg2
  go_enter Try.func24, Try.ntmps24
  go_wp2_with (first
    | (go_at_call 31; refine A.out.mono ?_; rintro e w' ⟨rfl, rfl⟩)
    | (go_at_call 13; refine M.out.mono ?_; rintro e w' ⟨rfl, rfl⟩)
    | fail)
  go_end0
  exact ⟨rfl, rfl⟩
theorem fill_enter : ∀ (args : Array Value) (w : World), (callFunc 24 args).run Try.prog w = .ok (.enter 24 args) w :=
  enters_of Try.func24 (by kernel_rfl) rfl
theorem onced_chg (w : World) (g : Nat) : Chg w (onced w g) (fun k => k = g) := ⟨rfl, rfl, rfl, Nat.le_of_eq (by unfold onced; simp only [World.setCell, Array.size_modify]; rfl), fun k hk hn => by
  unfold onced
  rw [Below.heap_setCell _ _ _ k hn, Below.heap_setCell _ _ _ k hn]; rfl⟩
theorem set_chg (w : World) (g i : Nat) (u : Value) : Chg w (w.setCell ⟨g, i, none⟩ u) (fun k => k = g) := ⟨rfl, rfl, rfl, by simp [World.setCell], fun k hk hn => Below.heap_setCell _ _ _ k hn⟩
theorem getF_any (g vB : Nat) (d : Bool) (v : Int) (w : World) (hv : Blk w vB 25 #[.int .u64 v])
    (hg : LzAt w g (.func (.func 13) #[] #[.pointer (some ⟨vB, 0, none⟩)]) d (if d then 1 else 0) (if d then v else 0)) :
    Calls Try.prog 15 #[.pointer (some ⟨g, 0, none⟩)] w fun e w' => e = .returned (.int .u64 v) ∧ LzAt w' g (.func (.func 13) #[] #[.pointer (some ⟨vB, 0, none⟩)]) true 1 v ∧ Chg w w' (fun k => k = g) := by
  have hmf : ∀ (fn : Fn) (first cap : Array Value) (w : World), (Instr.makeFunc fn first cap).run Try.prog w = .ok (.func fn first cap) w := fun _ _ _ _ => rfl
  cases d
  · have hG : Blk w g 68 #[.int .u32 0, .int .i32 0, .int .u32 0, .func (.func 13) #[] #[.pointer (some ⟨vB, 0, none⟩)], .int .i32 0, .int .u64 0] := hg
    have n1 : vB ≠ g := Blk.ne_ hv hG (by decide)
    have C := fillF_any g vB v (w.setCell ⟨g, 1, none⟩ (.int .i32 1)) (hv.far (p := ⟨g, 1, none⟩) n1 _) (hG.set_ 1 (.int .i32 1))
    have D := Lib.hid (doM_first g 24 fill_enter (.pointer (some ⟨g, 0, none⟩))
      (fun w2 => Blk w2 g 68 #[.int .u32 0, .int .i32 1, .int .u32 0, .func (.func 13) #[] #[.pointer (some ⟨vB, 0, none⟩)], .int .i32 1, .int .u64 v] ∧ Chg w w2 (fun k => k = g)) w (hG.cell 0) (hG.cell 1) (hG.frozen 1)
      (C.mono (fun e w2 ⟨he, hw⟩ => ⟨he, by rw [hw]; exact ⟨((hG.set_ 1 (.int .i32 1)).set_ 4 (.int .i32 1)).set_ 5 (.int .u64 v), (set_chg _ _ _ _).trans ((set_chg _ _ _ _).trans (set_chg _ _ _ _) (fun _ _ h => h)) (fun _ _ h => h)⟩⟩))
      (fun w2 hw => ⟨⟨hw.1.cell 0, hw.1.frozen 0⟩, hw.1.cell 1, hw.1.frozen 1⟩))
    clear C hG hg hv n1
    go_enter Try.func15, Try.ntmps15
    go_wp2_with (fail)
    refine D.out.mono ?_
    rintro e w3 ⟨rfl, w2, ⟨hg2, hc2⟩, rfl⟩
    have hL : LzAt (onced w2 g) g (.func (.func 13) #[] #[.pointer (some ⟨vB, 0, none⟩)]) true 1 v := ((hg2.drew).set_ 0 (.int .u32 1)).set_ 1 (.int .i32 0)
    have HF := Lib.hid (And.intro hL (hc2.trans (onced_chg w2 g) (fun _ _ h => h)))
    have c5 : (onced w2 g).cell? ⟨g, 5, none⟩ = some (.int .u64 v) := hL.cell 5
    clear hL hg2 hc2 D
    generalize onced w2 g = w3 at *
    go_wp2_with (fail)
    go_ret
    exact ⟨rfl, HF.out.1, HF.out.2⟩
  · have hG : Blk w g 68 #[.int .u32 1, .int .i32 0, .int .u32 0, .func (.func 13) #[] #[.pointer (some ⟨vB, 0, none⟩)], .int .i32 1, .int .u64 v] := hg
    have HG := Lib.hid hg
    have D := Lib.hid (do_done g (.func (.func 24) #[.pointer (some ⟨g, 0, none⟩)] #[]) w (hG.cell 0))
    have c5 : w.cell? ⟨g, 5, none⟩ = some (.int .u64 v) := hG.cell 5
    clear hG hg hv
    go_enter Try.func15, Try.ntmps15
    go_wp2_with (fail)
    refine D.out.mono ?_
    rintro e w3 ⟨rfl, rfl⟩
    go_wp2_with (fail)
    go_ret
    exact ⟨rfl, HG.out, Chg.refl _ _⟩
theorem getN_any (g : Nat) (d : Bool) (w : World) (hg : LzAt w g .nilFunc d 0 0) :
    Calls Try.prog 15 #[.pointer (some ⟨g, 0, none⟩)] w fun e w' => e = .returned (.int .u64 0) ∧ LzAt w' g .nilFunc true 0 0 ∧ Chg w w' (fun k => k = g) := by
  have hmf : ∀ (fn : Fn) (first cap : Array Value) (w : World), (Instr.makeFunc fn first cap).run Try.prog w = .ok (.func fn first cap) w := fun _ _ _ _ => rfl
  cases d
  · have hG : Blk w g 68 #[.int .u32 0, .int .i32 0, .int .u32 0, .nilFunc, .int .i32 0, .int .u64 0] := hg
    have C := fillN_any g (w.setCell ⟨g, 1, none⟩ (.int .i32 1)) ((hG.set_ 1 (.int .i32 1)).cell 3)
    have D := Lib.hid (doM_first g 24 fill_enter (.pointer (some ⟨g, 0, none⟩))
      (fun w2 => Blk w2 g 68 #[.int .u32 0, .int .i32 1, .int .u32 0, .nilFunc, .int .i32 0, .int .u64 0] ∧ Chg w w2 (fun k => k = g)) w (hG.cell 0) (hG.cell 1) (hG.frozen 1)
      (C.mono (fun e w2 ⟨he, hw⟩ => ⟨he, by rw [← hw]; exact ⟨hG.set_ 1 (.int .i32 1), set_chg _ _ _ _⟩⟩))
      (fun w2 hw => ⟨⟨hw.1.cell 0, hw.1.frozen 0⟩, hw.1.cell 1, hw.1.frozen 1⟩))
    clear C hG hg
    go_enter Try.func15, Try.ntmps15
    go_wp2_with (fail)
    refine D.out.mono ?_
    rintro e w3 ⟨rfl, w2, ⟨hg2, hc2⟩, rfl⟩
    have hL : LzAt (onced w2 g) g .nilFunc true 0 0 := ((hg2.drew).set_ 0 (.int .u32 1)).set_ 1 (.int .i32 0)
    have HF := Lib.hid (And.intro hL (hc2.trans (onced_chg w2 g) (fun _ _ h => h)))
    have c5 : (onced w2 g).cell? ⟨g, 5, none⟩ = some (.int .u64 0) := hL.cell 5
    clear hL hg2 hc2 D
    generalize onced w2 g = w3 at *
    go_wp2_with (fail)
    go_ret
    exact ⟨rfl, HF.out.1, HF.out.2⟩
  · have hG : Blk w g 68 #[.int .u32 1, .int .i32 0, .int .u32 0, .nilFunc, .int .i32 0, .int .u64 0] := hg
    have HG := Lib.hid hg
    have D := Lib.hid (do_done g (.func (.func 24) #[.pointer (some ⟨g, 0, none⟩)] #[]) w (hG.cell 0))
    have c5 : w.cell? ⟨g, 5, none⟩ = some (.int .u64 0) := hG.cell 5
    clear hG hg
    go_enter Try.func15, Try.ntmps15
    go_wp2_with (fail)
    refine D.out.mono ?_
    rintro e w3 ⟨rfl, rfl⟩
    go_wp2_with (fail)
    go_ret
    exact ⟨rfl, HG.out, Chg.refl _ _⟩
end Go.Proofs.Ytfkjdeiimlincaa
