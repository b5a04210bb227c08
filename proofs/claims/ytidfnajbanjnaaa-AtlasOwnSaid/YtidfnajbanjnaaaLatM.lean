/- sync.Once with a bound method; atomic.Int32's Add: for whatever lazy value. -/
import Derived.Test.YtidfnajbanjnaaaLatA
namespace Go.Proofs.Ytidfnajbanjnaaa
open Go.RowKit
set_option linter.unusedSimpArgs false
set_option linter.unusedVariables false
set_option maxRecDepth 100000
set_option maxHeartbeats 8000000

theorem slowM_any (g fid : Nat) (hent : ∀ (args : Array Value) (w : World), (callFunc fid args).run Try.prog w = .ok (.enter fid args) w) (r : Value) (R : World → Prop) (w : World)
    (h0 : w.cell? ⟨g, 0, none⟩ = some (.int .u32 0)) (h1 : w.cell? ⟨g, 1, none⟩ = some (.int .i32 0)) (f1 : w.frozen? ⟨g, 1, none⟩ = false)
    (hcl : Calls Try.prog fid #[r] (w.setCell ⟨g, 1, none⟩ (.int .i32 1)) fun e w2 => e = .returned (.tuple #[]) ∧ R w2)
    (hR : ∀ w2, R w2 → (w2.cell? ⟨g, 0, none⟩ = some (.int .u32 0) ∧ w2.frozen? ⟨g, 0, none⟩ = false) ∧ w2.cell? ⟨g, 1, none⟩ = some (.int .i32 1) ∧ w2.frozen? ⟨g, 1, none⟩ = false) :
    Calls Try.prog 53 #[.pointer (some ⟨g, 0, none⟩), .func (.func fid) #[r] #[]] w fun e w' => e = .returned (.tuple #[]) ∧ ∃ w2, R w2 ∧ w' = onced w2 g := by
  have h01 : (w.setCell ⟨g, 1, none⟩ (.int .i32 1)).cell? ⟨g, 0, none⟩ = some (.int .u32 0) := (World.cell?_setCell_other _ ⟨g, 1, none⟩ ⟨g, 0, none⟩ _ (by simp)).trans h0
  have hnot := run_not
  have C := Lib.hid hcl
  have HR := Lib.hid hR
  clear hcl hR
  go_enter_defers Try.func53, Try.ntmps53
  go_wp2_with (first
    | (go_at_call 58; refine (lock_free ⟨g, 1, none⟩ _ h1 f1).mono ?_; rintro e w' ⟨rfl, rfl⟩)
    | (go_at_call 52; refine (bload_any ⟨g, 0, none⟩ 0 _ h01).mono ?_; rintro e w' ⟨rfl, rfl⟩)
    | fail)
  have C' : Hid (Calls Try.prog fid #[r] (w.setCell ⟨g, 1, none⟩ (.int .i32 1)) fun e w2 => e = .returned (.tuple #[]) ∧ R w2) := Lib.hid (by simpa using C.out)
  clear C
  refine C'.out.mono ?_
  rintro e w2 ⟨rfl, hw2⟩
  obtain ⟨⟨k0, z0⟩, k1, z1⟩ := HR.out w2 hw2
  go_wp2
  refine leaves_cons (f := 60) (args := #[.pointer (some ⟨g, 0, none⟩), .bool true]) (by simp) (by simp [go_sem]) ?_
  refine (store_deferred ⟨g, 0, none⟩ (.int .u32 0) .returning _ k0 z0).mono ?_
  rintro e u' w'' ⟨rfl, rfl, rfl⟩
  refine leaves_cons (f := 59) (args := #[.pointer (some ⟨g, 1, none⟩)]) (by simp [settle]) (by simp [go_sem]) ?_
  refine (unlock_deferred ⟨g, 1, none⟩ _ _ ?_ ?_).mono ?_
  · refine (World.cell?_setCell_other _ ⟨g, 0, none⟩ ⟨g, 1, none⟩ _ (by simp)).trans ?_
    rw [World.cell?_drew]
    exact k1
  · rw [World.frozen?_setCell]; exact z1
  rintro e u' w'' ⟨rfl, rfl, rfl⟩
  simp [Leaves, settle, results, Try.results53]
  exact ⟨w2, hw2, rfl⟩
theorem doM_first (g fid : Nat) (hent : ∀ (args : Array Value) (w : World), (callFunc fid args).run Try.prog w = .ok (.enter fid args) w) (r : Value) (R : World → Prop) (w : World)
    (h0 : w.cell? ⟨g, 0, none⟩ = some (.int .u32 0)) (h1 : w.cell? ⟨g, 1, none⟩ = some (.int .i32 0)) (f1 : w.frozen? ⟨g, 1, none⟩ = false)
    (hcl : Calls Try.prog fid #[r] (w.setCell ⟨g, 1, none⟩ (.int .i32 1)) fun e w2 => e = .returned (.tuple #[]) ∧ R w2)
    (hR : ∀ w2, R w2 → (w2.cell? ⟨g, 0, none⟩ = some (.int .u32 0) ∧ w2.frozen? ⟨g, 0, none⟩ = false) ∧ w2.cell? ⟨g, 1, none⟩ = some (.int .i32 1) ∧ w2.frozen? ⟨g, 1, none⟩ = false) :
    Calls Try.prog 47 #[.pointer (some ⟨g, 0, none⟩), .func (.func fid) #[r] #[]] w fun e w' => e = .returned (.tuple #[]) ∧ ∃ w2, R w2 ∧ w' = onced w2 g := by
  have S := Lib.hid (slowM_any g fid hent r R w h0 h1 f1 hcl hR)
  have hnot := run_not
  have hB := Lib.hid (bload_any ⟨g, 0, none⟩ 0 w h0)
  clear hcl hR h1 f1
  go_enter Try.func47, Try.ntmps47
  go_wp2_with (first | (go_at_call 52; refine hB.out.mono ?_; rintro e w' ⟨rfl, rfl⟩) | fail)
  refine S.out.mono ?_
  rintro e w2 ⟨rfl, h⟩
  go_wp2
  go_end0
  exact ⟨rfl, h⟩

theorem add_any (a : Addr) (w : World) (hc : w.cell? a = some (.int .i32 0)) (hz : w.frozen? a = false) : Calls Try.prog 54 #[.pointer (some a), .int .i32 1] w fun e w' => e = .returned (.int .i32 1) ∧ w' = w.setCell a (.int .i32 1) := by
  have hadd := run_call_add (P := Try.prog) Try.func61 (by kernel_rfl) (by kernel_rfl) (by kernel_rfl) .i32 (by kernel_rfl) (y := 1) (s := 1) hc hz (by simp [go_sem]; rfl)
  go_enter Try.func54, Try.ntmps54
  go_wp2
  go_ret
  exact ⟨rfl, rfl⟩
theorem onced_chg (w : World) (g : Nat) : Chg w (onced w g) (fun k => k = g) := ⟨rfl, rfl, rfl, Nat.le_of_eq (by unfold onced; simp only [World.setCell, Array.size_modify]; rfl), fun k hk hn => by
  unfold onced
  rw [Below.heap_setCell _ _ _ k hn, Below.heap_setCell _ _ _ k hn]; rfl⟩
theorem set_chg (w : World) (g i : Nat) (u : Value) : Chg w (w.setCell ⟨g, i, none⟩ u) (fun k => k = g) := ⟨rfl, rfl, rfl, by simp [World.setCell], fun k hk hn => Below.heap_setCell _ _ _ k hn⟩
end Go.Proofs.Ytidfnajbanjnaaa
