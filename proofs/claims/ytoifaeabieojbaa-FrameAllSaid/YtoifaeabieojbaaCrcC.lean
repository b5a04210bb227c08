/- Package crc: a table in memory: New, fill, ready. -/
import Derived.Test.YtoifaeabieojbaaCrcB
import Derived.StillTailTactics
namespace Go.Proofs.Ytoifaeabieojbaa
open Go.RowKit
set_option linter.unusedSimpArgs false
set_option linter.unusedVariables false
set_option maxRecDepth 100000
set_option maxHeartbeats 4000000

/-- a table's block: the once's two words, how often it was made, the numbers -/
def TabC (w : World) (g : Nat) (c0 c1 c3 : Int) (f : Nat → Int) : Prop :=
  ∃ cs : Array Value, Blk w g 86 cs ∧ cs.size = 260 ∧ cs[0]? = some (.int .u32 c0) ∧ cs[1]? = some (.int .i32 c1) ∧ cs[3]? = some (.int .i32 c3) ∧ ∀ j, j < 256 → cs[4 + j]? = some (.int .u32 (f j))
section
variable {w w' : World} {g : Nat} {c0 c1 c3 : Int} {f : Nat → Int}
theorem TabC.lt (h : TabC w g c0 c1 c3 f) : g < w.heap.size := h.choose_spec.1.lt
theorem TabC.frozen (h : TabC w g c0 c1 c3 f) (i : Nat) : w.frozen? ⟨g, i, none⟩ = false := h.choose_spec.1.frozen i
theorem TabC.k0 (h : TabC w g c0 c1 c3 f) : w.cell? ⟨g, 0, none⟩ = some (.int .u32 c0) := by obtain ⟨cs, b, _, h0, _⟩ := h; exact (b.cell 0).trans h0
theorem TabC.k1 (h : TabC w g c0 c1 c3 f) : w.cell? ⟨g, 1, none⟩ = some (.int .i32 c1) := by obtain ⟨cs, b, _, _, h1, _⟩ := h; exact (b.cell 1).trans h1
theorem TabC.k3 (h : TabC w g c0 c1 c3 f) : w.cell? ⟨g, 3, none⟩ = some (.int .i32 c3) := by obtain ⟨cs, b, _, _, _, h3, _⟩ := h; exact (b.cell 3).trans h3
theorem TabC.kt (h : TabC w g c0 c1 c3 f) {j : Nat} (hj : j < 256) : w.cell? ⟨g, 4 + j, none⟩ = some (.int .u32 (f j)) := by obtain ⟨cs, b, _, _, _, _, ht⟩ := h; exact (b.cell _).trans (ht j hj)
theorem TabC.s0 (h : TabC w g c0 c1 c3 f) (x : Int) : TabC (w.setCell ⟨g, 0, none⟩ (.int .u32 x)) g x c1 c3 f := by
  obtain ⟨cs, b, hs, h0, h1, h3, ht⟩ := h
  refine ⟨_, b.set_ 0 _, by simp [hs], by simp [hs], by simp [h1], by simp [h3], fun j hj => ?_⟩
  rw [Array.getElem?_setIfInBounds_ne (by omega)]; exact ht j hj
theorem TabC.s1 (h : TabC w g c0 c1 c3 f) (x : Int) : TabC (w.setCell ⟨g, 1, none⟩ (.int .i32 x)) g c0 x c3 f := by
  obtain ⟨cs, b, hs, h0, h1, h3, ht⟩ := h
  refine ⟨_, b.set_ 1 _, by simp [hs], by simp [h0], by simp [hs], by simp [h3], fun j hj => ?_⟩
  rw [Array.getElem?_setIfInBounds_ne (by omega)]; exact ht j hj
theorem TabC.s3 (h : TabC w g c0 c1 c3 f) (x : Int) : TabC (w.setCell ⟨g, 3, none⟩ (.int .i32 x)) g c0 c1 x f := by
  obtain ⟨cs, b, hs, h0, h1, h3, ht⟩ := h
  refine ⟨_, b.set_ 3 _, by simp [hs], by simp [h0], by simp [h1], by simp [hs], fun j hj => ?_⟩
  rw [Array.getElem?_setIfInBounds_ne (by omega)]; exact ht j hj
theorem TabC.st (h : TabC w g c0 c1 c3 f) (k : Nat) (hk : k < 256) (x : Int) : TabC (w.setCell ⟨g, 4 + k, none⟩ (.int .u32 x)) g c0 c1 c3 (fun j => if j = k then x else f j) := by
  obtain ⟨cs, b, hs, h0, h1, h3, ht⟩ := h
  refine ⟨_, b.set_ (4 + k) _, by simp [hs], ?_, ?_, ?_, fun j hj => ?_⟩
  · rw [Array.getElem?_setIfInBounds_ne (by omega)]; exact h0
  · rw [Array.getElem?_setIfInBounds_ne (by omega)]; exact h1
  · rw [Array.getElem?_setIfInBounds_ne (by omega)]; exact h3
  · by_cases hjk : j = k
    · subst hjk; rw [Array.getElem?_setIfInBounds_self_of_lt (by omega)]; simp
    · rw [Array.getElem?_setIfInBounds_ne (by omega)]; simp only [if_neg hjk]; exact ht j hj
theorem TabC.drew (h : TabC w g c0 c1 c3 f) : TabC w.drew g c0 c1 c3 f := h
theorem TabC.drewN (h : TabC w g c0 c1 c3 f) (n : Nat) : TabC (w.drewN n) g c0 c1 c3 f := h
theorem TabC.below {B : Nat} (h : TabC w g c0 c1 c3 f) (hb : Below B w w') (hg : g < B) : TabC w' g c0 c1 c3 f := by obtain ⟨cs, b, r⟩ := h; exact ⟨cs, b.below hb hg, r⟩
theorem TabC.chg {S : Nat → Prop} (h : TabC w g c0 c1 c3 f) (hc : Chg w w' S) (hS : ¬ S g) : TabC w' g c0 c1 c3 f := by obtain ⟨cs, b, r⟩ := h; exact ⟨cs, hc.blk b hS, r⟩
theorem TabC.same {f' : Nat → Int} (h : TabC w g c0 c1 c3 f) (hf : ∀ j, j < 256 → f j = f' j) : TabC w g c0 c1 c3 f' := by
  obtain ⟨cs, b, hs, h0, h1, h3, ht⟩ := h
  exact ⟨cs, b, hs, h0, h1, h3, fun j hj => by rw [ht j hj, hf j hj]⟩
end
def tabF (j : Nat) : Int := ((hv 8 j : Nat) : Int)
def dI (d : Bool) : Int := if d then 1 else 0
/-- a table: made, or not yet -/
def Tb (w : World) (g : Nat) (d : Bool) : Prop := TabC w g (dI d) 0 (dI d) (fun j => if d then tabF j else 0)

theorem Chg.set1 {w w' : World} {g : Nat} (h : Chg w w' (fun k => k = g)) (i : Nat) (v : Value) : Chg w (w'.setCell ⟨g, i, none⟩ v) (fun k => k = g) :=
  ⟨h.os, h.tape, h.output, by simpa [World.setCell] using h.size, fun k hk hn => (Below.heap_setCell w' ⟨g, i, none⟩ v k hn).trans (h.block k hk hn)⟩
theorem Chg.drewN {w w' : World} {S : Nat → Prop} (h : Chg w w' S) (n : Nat) : Chg w (w'.drewN n) S := ⟨h.os, h.tape, h.output, h.size, h.block⟩

theorem slowM_any (g fid : Nat) (hent : ∀ (args : Array Value) (w : World), (callFunc fid args).run Try.prog w = .ok (.enter fid args) w) (r : Value) (R : World → Prop) (w : World)
    (h0 : w.cell? ⟨g, 0, none⟩ = some (.int .u32 0)) (h1 : w.cell? ⟨g, 1, none⟩ = some (.int .i32 0)) (f1 : w.frozen? ⟨g, 1, none⟩ = false)
    (hcl : Calls Try.prog fid #[r] (w.setCell ⟨g, 1, none⟩ (.int .i32 1)) fun e w2 => e = .returned (.tuple #[]) ∧ R w2)
    (hR : ∀ w2, R w2 → (w2.cell? ⟨g, 0, none⟩ = some (.int .u32 0) ∧ w2.frozen? ⟨g, 0, none⟩ = false) ∧ w2.cell? ⟨g, 1, none⟩ = some (.int .i32 1) ∧ w2.frozen? ⟨g, 1, none⟩ = false) :
    Calls Try.prog 75 #[.pointer (some ⟨g, 0, none⟩), .func (.func fid) #[r] #[]] w fun e w' => e = .returned (.tuple #[]) ∧ ∃ w2, R w2 ∧ w' = onced w2 g := by
  have h01 : (w.setCell ⟨g, 1, none⟩ (.int .i32 1)).cell? ⟨g, 0, none⟩ = some (.int .u32 0) := (World.cell?_setCell_other _ ⟨g, 1, none⟩ ⟨g, 0, none⟩ _ (by simp)).trans h0
  have hnot := run_not
  have C := Lib.hid hcl
  have HR := Lib.hid hR
  clear hcl hR
  go_enter_defers Try.func75, Try.ntmps75
  go_wp2_with (first
    | (go_at_call 79; refine (lock_free ⟨g, 1, none⟩ _ h1 f1).mono ?_; rintro e w' ⟨rfl, rfl⟩)
    | (go_at_call 74; refine (bload_any ⟨g, 0, none⟩ 0 _ h01).mono ?_; rintro e w' ⟨rfl, rfl⟩)
    | fail)
  have C' : Hid (Calls Try.prog fid #[r] (w.setCell ⟨g, 1, none⟩ (.int .i32 1)) fun e w2 => e = .returned (.tuple #[]) ∧ R w2) := Lib.hid (by simpa using C.out)
  clear C
  refine C'.out.mono ?_
  rintro e w2 ⟨rfl, hw2⟩
  obtain ⟨⟨k0, z0⟩, k1, z1⟩ := HR.out w2 hw2
  go_wp2
  refine leaves_cons (f := 81) (args := #[.pointer (some ⟨g, 0, none⟩), .bool true]) (by simp) (by simp [go_sem]) ?_
  refine (store_deferred ⟨g, 0, none⟩ (.int .u32 0) .returning _ k0 z0).mono ?_
  rintro e u' w'' ⟨rfl, rfl, rfl⟩
  refine leaves_cons (f := 80) (args := #[.pointer (some ⟨g, 1, none⟩)]) (by simp [settle]) (by simp [go_sem]) ?_
  refine (unlock_deferred ⟨g, 1, none⟩ _ _ ?_ ?_).mono ?_
  · refine (World.cell?_setCell_other _ ⟨g, 0, none⟩ ⟨g, 1, none⟩ _ (by simp)).trans ?_
    rw [World.cell?_drew]
    exact k1
  · rw [World.frozen?_setCell]; exact z1
  rintro e u' w'' ⟨rfl, rfl, rfl⟩
  simp [Leaves, settle, results, Try.results75]
  exact ⟨w2, hw2, rfl⟩
theorem doM_first (g fid : Nat) (hent : ∀ (args : Array Value) (w : World), (callFunc fid args).run Try.prog w = .ok (.enter fid args) w) (r : Value) (R : World → Prop) (w : World)
    (h0 : w.cell? ⟨g, 0, none⟩ = some (.int .u32 0)) (h1 : w.cell? ⟨g, 1, none⟩ = some (.int .i32 0)) (f1 : w.frozen? ⟨g, 1, none⟩ = false)
    (hcl : Calls Try.prog fid #[r] (w.setCell ⟨g, 1, none⟩ (.int .i32 1)) fun e w2 => e = .returned (.tuple #[]) ∧ R w2)
    (hR : ∀ w2, R w2 → (w2.cell? ⟨g, 0, none⟩ = some (.int .u32 0) ∧ w2.frozen? ⟨g, 0, none⟩ = false) ∧ w2.cell? ⟨g, 1, none⟩ = some (.int .i32 1) ∧ w2.frozen? ⟨g, 1, none⟩ = false) :
    Calls Try.prog 71 #[.pointer (some ⟨g, 0, none⟩), .func (.func fid) #[r] #[]] w fun e w' => e = .returned (.tuple #[]) ∧ ∃ w2, R w2 ∧ w' = onced w2 g := by
  have S := Lib.hid (slowM_any g fid hent r R w h0 h1 f1 hcl hR)
  have hnot := run_not
  have hB := Lib.hid (bload_any ⟨g, 0, none⟩ 0 w h0)
  clear hcl hR h1 f1
  go_enter Try.func71, Try.ntmps71
  go_wp2_with (first | (go_at_call 74; refine hB.out.mono ?_; rintro e w' ⟨rfl, rfl⟩) | fail)
  refine S.out.mono ?_
  rintro e w2 ⟨rfl, h⟩
  go_wp2
  go_end0
  exact ⟨rfl, h⟩

theorem add_any (a : Addr) (w : World) (hc : w.cell? a = some (.int .i32 0)) (hz : w.frozen? a = false) : Calls Try.prog 77 #[.pointer (some a), .int .i32 1] w fun e w' => e = .returned (.int .i32 1) ∧ w' = w.setCell a (.int .i32 1) := by
  have hadd := run_call_add (P := Try.prog) Try.func82 (by kernel_rfl) (by kernel_rfl) (by kernel_rfl) .i32 (by kernel_rfl) (y := 1) (s := 1) hc hz (by simp [go_sem]; rfl)
  go_enter Try.func77, Try.ntmps77
  go_wp2
  go_ret
  exact ⟨rfl, rfl⟩

theorem crcNew_any (w : World) : Calls Try.prog 10 #[] w fun e w' => e = .returned (.pointer (some ⟨w.heap.size, 0, none⟩)) ∧ Tb w' w.heap.size false ∧ Below w.heap.size w w' := by
  go_enter Try.func10, Try.ntmps10
  go_wp2
  go_ret
  refine ⟨rfl, ⟨_, Blk.new _ _ _, by rfl, by rfl, by rfl, by rfl, ?_⟩, (Below.refl _ _).alloc (Nat.le_refl _) _⟩
  intro j hj
  have e : ∀ cs : Array Value, cs = #[.int .u32 0, .int .i32 0, .int .u32 0, .int .i32 0] ++ Array.replicate 256 (.int .u32 0) → cs[4 + j]? = some (.int .u32 0) := by
    rintro cs rfl
    rw [Array.getElem?_append_right (by simp), Array.getElem?_replicate, if_pos (by simpa using hj)]
  exact e _ (by kernel_rfl)

theorem crcFill_any (g : Nat) (f : Nat → Int) (w : World) (h : TabC w g 0 1 0 f) : Calls Try.prog 72 #[.pointer (some ⟨g, 0, none⟩)] w fun e w' => e = .returned (.tuple #[]) ∧ (TabC w' g 0 1 1 tabF ∧ Chg w w' (fun k => k = g)) := by
  have H := Lib.hid h
  clear h
  go_enter Try.func72, Try.ntmps72
  go_wp2
  go_loopw [2, 3] (fun i0 i wr => ∃ k : Nat, k ≤ 256 ∧ i = .int .i64 k ∧ Hid (TabC wr g 0 1 0 (fun j => if j < k then tabF j else f j)) ∧ Hid (Chg w wr (fun k => k = g))) (fun _ i _ => 256 - (intOf i).toNat)
  case atStart => exact ⟨0, by omega, rfl, Lib.hid (H.out.same fun j _ => by rw [if_neg (by omega)]), Lib.hid (Chg.refl _ _)⟩
  case round =>
    obtain ⟨k, hk, rfl, HT, HC⟩ := hrel
    by_cases hlt : k < 256
    · have ct := HT.out.kt hlt
      have ft := HT.out.frozen (4 + k)
      have hw : IntKind.u32.wrap (k : Int) = k := by rw [IntKind.wrap_u32']; omega
      go_wp2_with (fail)
      go_region_held3 (fun w' => w'.frozen? ⟨g, 4 + k, none⟩ = false) (go_keep) (first | (go_at_call 76; refine (halved_any k (by omega) _).mono ?_; rintro e w' ⟨rfl, rfl⟩) | fail)
      go_wp2_with (fail)
      go_roundw
      case rel => exact ⟨k + 1, by omega, by go_num, Lib.hid (TabC.drew ((HT.out.st k hlt _).same fun j _ => by
        by_cases hj : j = k
        · subst hj; simp [tabF]
        · rw [if_neg hj]
          by_cases h2 : j < k
          · rw [if_pos h2, if_pos (by omega)]
          · rw [if_neg h2, if_neg (by omega)])), Lib.hid (Chg.drewN (HC.out.set1 _ _) 1)⟩
      case measure => simp [intOf]; omega
    · obtain rfl : k = 256 := by omega
      have HT2 : Hid (TabC wr g 0 1 0 tabF) := Lib.hid (HT.out.same fun j hj => by rw [if_pos hj])
      clear HT
      have A := Lib.hid (add_any ⟨g, 3, none⟩ wr HT2.out.k3 (HT2.out.frozen 3))
      go_wp2_with (fail)
      refine A.out.mono ?_
      rintro e w' ⟨rfl, rfl⟩
      go_wp2
      go_end0
      exact ⟨rfl, HT2.out.s3 1, HC.out.set1 _ _⟩
theorem crcFill_enter : ∀ (args : Array Value) (w : World), (callFunc 72 args).run Try.prog w = .ok (.enter 72 args) w :=
  enters_of Try.func72 (by kernel_rfl) rfl

theorem crcReady_any (g : Nat) (d : Bool) (w : World) (h : Tb w g d) : Calls Try.prog 63 #[.pointer (some ⟨g, 0, none⟩)] w fun e w' => e = .returned (.pointer (some ⟨g, 4, none⟩)) ∧ Tb w' g true ∧ Chg w w' (fun k => k = g) := by
  have hmf : ∀ (fn : Fn) (first cap : Array Value) (w : World), (Instr.makeFunc fn first cap).run Try.prog w = .ok (.func fn first cap) w := fun _ _ _ _ => rfl
  cases d
  · have h0 : TabC w g 0 0 0 (fun _ => 0) := h
    have C := crcFill_any g (fun _ => 0) (w.setCell ⟨g, 1, none⟩ (.int .i32 1)) (h0.s1 1)
    have D := Lib.hid (doM_first g 72 crcFill_enter (.pointer (some ⟨g, 0, none⟩)) (fun w2 => TabC w2 g 0 1 1 tabF ∧ Chg (w.setCell ⟨g, 1, none⟩ (.int .i32 1)) w2 (fun k => k = g)) w h0.k0 h0.k1 (h0.frozen 1) C
      (fun w2 hw => ⟨⟨hw.1.k0, hw.1.frozen 0⟩, hw.1.k1, hw.1.frozen 1⟩))
    clear C h h0
    go_enter Try.func63, Try.ntmps63
    go_wp2_with (fail)
    refine D.out.mono ?_
    rintro e w' ⟨rfl, w2, ⟨h1, h2⟩, hw'⟩
    have HF : Hid (Tb w' g true ∧ Chg w w' (fun k => k = g)) := Lib.hid (by
      subst hw'
      refine ⟨((h1.drew).s0 1).s1 0, ?_⟩
      unfold onced
      have h3 : Chg w w2 (fun k => k = g) := ((Chg.refl w _).set1 1 _).trans h2 (fun _ _ h => h)
      exact (Chg.set1 (Chg.drewN h3 1) 0 _).set1 1 _)
    clear h1 h2 hw' D
    go_wp2
    go_ret
    exact ⟨rfl, HF.out.1, HF.out.2⟩
  · have h0 : TabC w g 1 0 1 tabF := h
    have D := Lib.hid (do_done g (.func (.func 72) #[.pointer (some ⟨g, 0, none⟩)] #[]) w h0.k0)
    have H := Lib.hid h
    clear h0 h
    go_enter Try.func63, Try.ntmps63
    go_wp2_with (fail)
    refine D.out.mono ?_
    rintro e w' ⟨rfl, rfl⟩
    go_wp2
    go_ret
    exact ⟨rfl, H.out, Chg.refl _ _⟩
end Go.Proofs.Ytoifaeabieojbaa
