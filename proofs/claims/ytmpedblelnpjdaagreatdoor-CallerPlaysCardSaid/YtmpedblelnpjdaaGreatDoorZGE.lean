import Derived.Defers
import Derived.Laws.Pointers
import Derived.Laws.LoneSync
import Derived.Laws.NewBlocks
import Derived.RegionTactic
import Derived.RegionCalls
import Derived.ChangeAlike
import Derived.Shelf.Abstract
import Derived.Test.YtmpedblelnpjdaaGreatDoorRows
import Derived.Test.YtmpedblelnpjdaaGreatDoorZGA
import Derived.WalkKit
import Derived.Laws.BitsAll
import Derived.StillTailTactics
import Derived.Test.YtmpedblelnpjdaaGreatDoorZGB
import Derived.Lib.SlBytesConst
import Derived.Laws.BytesArg
import Derived.Shelf.Bytes.SlSmallAll
section
/- GD: LatA CrcM CrcA CrcB CrcC CrcD CrcE FixKit CrcF CrcG CrcH CrcI CrcJ CrcK CrcL CrcN CrcO -/
/- sync.Once, one goroutine: its calls, each by a contract (after the guide's worked text, toys/lazy). -/
namespace Go.Proofs.YtmpedblelnpjdaaGreatDoor
open Go.RowKit
set_option linter.unusedSimpArgs false
set_option linter.unusedVariables false
set_option maxRecDepth 100000
set_option maxHeartbeats 4000000
theorem disable (w : World) : (callFunc 334 #[]).run Tryz.prog w = .ok (.value (.tuple #[])) w := run_call_mark0 Tryz.func334 (by kernel_rfl) (by kernel_rfl) (by kernel_rfl) .disable (by kernel_rfl) w
theorem enable (w : World) : (callFunc 336 #[]).run Tryz.prog w = .ok (.value (.tuple #[])) w := run_call_mark0 Tryz.func336 (by kernel_rfl) (by kernel_rfl) (by kernel_rfl) .enable (by kernel_rfl) w
theorem acquire (a : Addr) (w : World) : (callFunc 337 #[.pointer (some a)]).run Tryz.prog w = .ok (.value (.tuple #[])) w := run_call_marked Tryz.func337 (by kernel_rfl) (by kernel_rfl) (by kernel_rfl) .acquire (by kernel_rfl) a w
theorem releaseMerge (a : Addr) (w : World) : (callFunc 339 #[.pointer (some a)]).run Tryz.prog w = .ok (.value (.tuple #[])) w := run_call_marked Tryz.func339 (by kernel_rfl) (by kernel_rfl) (by kernel_rfl) .releaseMerge (by kernel_rfl) a w
theorem run_not (x : Bool) (w : World) : (Op.unary .not (.bool x)).run Tryz.prog w = .ok (.bool (!x)) w := rfl
theorem bload_any (a : Addr) (x : Int) (w : World) (hc : w.cell? a = some (.int .u32 x)) : Calls Tryz.prog 230 #[.pointer (some a)] w fun e w' => e = .returned (.bool (x != 0)) ∧ w = w' := by
 have hl := run_call_load (P := Tryz.prog) Tryz.func289 (by kernel_rfl) (by kernel_rfl) (by kernel_rfl) .u32 (by kernel_rfl) hc
 go_enter Tryz.func230, Tryz.ntmps230
 go_wp2
 go_ret
 exact ⟨rfl, rfl⟩
theorem bstore_any (a : Addr) (x : Value) (w : World) (hc : w.cell? a = some x) (hz : w.frozen? a = false) :
  Calls Tryz.prog 242 #[.pointer (some a), .bool true] w fun e w' => e = .returned (.tuple #[]) ∧ w' = w.drew.setCell a (.int .u32 1) := by
 have hc' : w.drew.cell? a = some x := by go_simp
 have hz' : w.drew.frozen? a = false := by go_simp
 have hst := run_call_store (P := Tryz.prog) Tryz.func295 (by kernel_rfl) (by kernel_rfl) (by kernel_rfl) (by kernel_rfl) (k := .u32) (y := 1) hc' hz'
 go_enter Tryz.func242, Tryz.ntmps242
 go_wp2
 go_region_calls
 all_goals (go_end0; exact ⟨rfl, rfl⟩)
theorem store_deferred (a : Addr) (x : Value) (u : FrameMode) (w : World) (hc : w.cell? a = some x) (hz : w.frozen? a = false) :
  CallsD Tryz.prog 242 #[.pointer (some a), .bool true] u w fun e u' w' => u' = u ∧ (e = .returned (.tuple #[]) ∧ w' = w.drew.setCell a (.int .u32 1)) := by
 have hc' : w.drew.cell? a = some x := by go_simp
 have hz' : w.drew.frozen? a = false := by go_simp
 have hst := run_call_store (P := Tryz.prog) Tryz.func295 (by kernel_rfl) (by kernel_rfl) (by kernel_rfl) (by kernel_rfl) (k := .u32) (y := 1) hc' hz'
 go_enter_d Tryz.func242, Tryz.ntmps242
 go_wp2
 go_region_calls
 all_goals (go_end0; exact ⟨rfl, rfl⟩)
theorem unlock_deferred (a : Addr) (u : FrameMode) (w : World) (hc : w.cell? a = some (.int .i32 1)) (hz : w.frozen? a = false) :
  CallsD Tryz.prog 321 #[.pointer (some a)] u w fun e u' w' => u' = u ∧ (e = .returned (.tuple #[]) ∧ w' = w.setCell a (.int .i32 0)) := by
 have hd := disable
 have he := enable
 have hr := releaseMerge
 have hadd := run_call_add (P := Tryz.prog) Tryz.func332 (by kernel_rfl) (by kernel_rfl) (by kernel_rfl) .i32 (by kernel_rfl) (y := -1) (s := 0) hc hz (by simp [go_sem]; rfl)
 have hcv := run_convert_to_unsafe (P := Tryz.prog) (src := 374) (dst := 377) Tryz.underlying374 Tryz.underlying377 (by kernel_rfl) hc
 go_enter_d Tryz.func321, Tryz.ntmps321
 go_wp2
 go_end0
 go_wp2
 go_end0
 exact ⟨rfl, rfl⟩
theorem lock_free (a : Addr) (w : World) (hc : w.cell? a = some (.int .i32 0)) (hz : w.frozen? a = false) :
  Calls Tryz.prog 320 #[.pointer (some a)] w fun e w' => e = .returned (.tuple #[]) ∧ w' = w.setCell a (.int .i32 1) := by
 have hd := disable
 have he := enable
 have ha := acquire
 have hcas := run_call_cas_hit (P := Tryz.prog) Tryz.func335 (by kernel_rfl) (by kernel_rfl) (by kernel_rfl) .i32 (by kernel_rfl) (y := 1) hc hz
 have hc' : (w.setCell a (.int .i32 1)).cell? a = some (.int .i32 1) := World.cell?_setCell_same w a _ hc
 have hcv := run_convert_to_unsafe (P := Tryz.prog) (src := 374) (dst := 377) Tryz.underlying374 Tryz.underlying377 (by kernel_rfl) hc'
 go_enter Tryz.func320, Tryz.ntmps320
 go_wp2
 first | go_end0 | (simp only [Exit.inBlock, Exit.then]; refine bodyPost_ret (results_none rfl _ _ _) rfl ?_) | refine bodyPost_ret (results_none rfl _ _ _) rfl ?_
 go_wp2
 go_end0
 exact ⟨rfl, rfl⟩
def onced (w : World) (g : Nat) : World := (w.drew.setCell ⟨g, 0, none⟩ (.int .u32 1)).setCell ⟨g, 1, none⟩ (.int .i32 0)
theorem slow_any (g fid : Nat) (hent : ∀ (args : Array Value) (w : World), (callFunc fid args).run Tryz.prog w = .ok (.enter fid args) w) (caps : Array Value) (R : World → Prop) (w : World)
  (h0 : w.cell? ⟨g, 0, none⟩ = some (.int .u32 0)) (h1 : w.cell? ⟨g, 1, none⟩ = some (.int .i32 0)) (f1 : w.frozen? ⟨g, 1, none⟩ = false)
  (hcl : Calls Tryz.prog fid (#[] ++ caps) (w.setCell ⟨g, 1, none⟩ (.int .i32 1)) fun e w2 => e = .returned (.tuple #[]) ∧ R w2)
  (hR : ∀ w2, R w2 → (w2.cell? ⟨g, 0, none⟩ = some (.int .u32 0) ∧ w2.frozen? ⟨g, 0, none⟩ = false) ∧ w2.cell? ⟨g, 1, none⟩ = some (.int .i32 1) ∧ w2.frozen? ⟨g, 1, none⟩ = false) :
  Calls Tryz.prog 294 #[.pointer (some ⟨g, 0, none⟩), .func (.func fid) #[] caps] w fun e w' => e = .returned (.tuple #[]) ∧ ∃ w2, R w2 ∧ w' = onced w2 g := by
 have h01 : (w.setCell ⟨g, 1, none⟩ (.int .i32 1)).cell? ⟨g, 0, none⟩ = some (.int .u32 0) := (World.cell?_setCell_other _ ⟨g, 1, none⟩ ⟨g, 0, none⟩ _ (by simp)).trans h0
 have hnot := run_not
 have C := Lib.hid hcl
 have HR := Lib.hid hR
 clear hcl hR
 go_enter_defers Tryz.func294, Tryz.ntmps294
 go_wp2_with (first
  | (go_at_call 320; refine (lock_free ⟨g, 1, none⟩ _ h1 f1).mono ?_; rintro e w' ⟨rfl, rfl⟩)
  | (go_at_call 230; refine (bload_any ⟨g, 0, none⟩ 0 _ h01).mono ?_; rintro e w' ⟨rfl, rfl⟩)
  | fail)
 have C' : Hid (Calls Tryz.prog fid caps (w.setCell ⟨g, 1, none⟩ (.int .i32 1)) fun e w2 => e = .returned (.tuple #[]) ∧ R w2) := Lib.hid (by simpa using C.out)
 clear C
 refine C'.out.mono ?_
 rintro e w2 ⟨rfl, hw2⟩
 obtain ⟨⟨k0, z0⟩, k1, z1⟩ := HR.out w2 hw2
 go_wp2
 refine leaves_cons (f := 242) (args := #[.pointer (some ⟨g, 0, none⟩), .bool true]) (by simp) (by simp [go_sem]) ?_
 refine (store_deferred ⟨g, 0, none⟩ (.int .u32 0) .returning _ k0 z0).mono ?_
 rintro e u' w'' ⟨rfl, rfl, rfl⟩
 refine leaves_cons (f := 321) (args := #[.pointer (some ⟨g, 1, none⟩)]) (by simp [settle]) (by simp [go_sem]) ?_
 refine (unlock_deferred ⟨g, 1, none⟩ _ _ ?_ ?_).mono ?_
 ·refine (World.cell?_setCell_other _ ⟨g, 0, none⟩ ⟨g, 1, none⟩ _ (by simp)).trans ?_
  rw [World.cell?_drew]
  exact k1
 ·rw [World.frozen?_setCell]; exact z1
 rintro e u' w'' ⟨rfl, rfl, rfl⟩
 simp [Leaves, settle, results, Tryz.results294]
 exact ⟨w2, hw2, rfl⟩
theorem do_first (g fid : Nat) (hent : ∀ (args : Array Value) (w : World), (callFunc fid args).run Tryz.prog w = .ok (.enter fid args) w) (caps : Array Value) (R : World → Prop) (w : World)
  (h0 : w.cell? ⟨g, 0, none⟩ = some (.int .u32 0)) (h1 : w.cell? ⟨g, 1, none⟩ = some (.int .i32 0)) (f1 : w.frozen? ⟨g, 1, none⟩ = false)
  (hcl : Calls Tryz.prog fid (#[] ++ caps) (w.setCell ⟨g, 1, none⟩ (.int .i32 1)) fun e w2 => e = .returned (.tuple #[]) ∧ R w2)
  (hR : ∀ w2, R w2 → (w2.cell? ⟨g, 0, none⟩ = some (.int .u32 0) ∧ w2.frozen? ⟨g, 0, none⟩ = false) ∧ w2.cell? ⟨g, 1, none⟩ = some (.int .i32 1) ∧ w2.frozen? ⟨g, 1, none⟩ = false) :
  Calls Tryz.prog 240 #[.pointer (some ⟨g, 0, none⟩), .func (.func fid) #[] caps] w fun e w' => e = .returned (.tuple #[]) ∧ ∃ w2, R w2 ∧ w' = onced w2 g := by
 have S := Lib.hid (slow_any g fid hent caps R w h0 h1 f1 hcl hR)
 have hnot := run_not
 have hB := Lib.hid (bload_any ⟨g, 0, none⟩ 0 w h0)
 clear hcl hR h1 f1
 go_enter Tryz.func240, Tryz.ntmps240
 go_wp2_with (first | (go_at_call 230; refine hB.out.mono ?_; rintro e w' ⟨rfl, rfl⟩) | fail)
 refine S.out.mono ?_
 rintro e w2 ⟨rfl, h⟩
 go_wp2
 go_end0
 exact ⟨rfl, h⟩
theorem do_done (g : Nat) (fv : Value) (w : World) (h0 : w.cell? ⟨g, 0, none⟩ = some (.int .u32 1)) :
  Calls Tryz.prog 240 #[.pointer (some ⟨g, 0, none⟩), fv] w fun e w' => e = .returned (.tuple #[]) ∧ w = w' := by
 have hnot := run_not
 have hB := Lib.hid (bload_any ⟨g, 0, none⟩ 1 w h0)
 go_enter Tryz.func240, Tryz.ntmps240
 go_wp2_with (first | (go_at_call 230; refine hB.out.mono ?_; rintro e w' ⟨rfl, rfl⟩) | fail)
 go_end0
 exact ⟨rfl, rfl⟩
end Go.Proofs.YtmpedblelnpjdaaGreatDoor
/- Sums of 32 bits over bytes, as plain numbers: halving, bytes, the table, bursts. No program. -/
namespace Go.Proofs.YtmpedblelnpjdaaGreatDoor
def half (s : Nat) : Nat := (s / 2) ^^^ (if s % 2 = 1 then 3988292384 else 0)
def hv : Nat → Nat → Nat
 | 0, s => s
 | k + 1, s => hv k (half s)
def onB : Nat → List Nat → Nat
 | s, [] => s
 | s, b :: l => onB (hv 8 (s ^^^ b)) l
def other (s : Nat) : Nat := s ^^^ 4294967295
def crc (l : List Nat) : Nat := other (onB 4294967295 l)
end Go.Proofs.YtmpedblelnpjdaaGreatDoor
/- Package crc: halved, byte32, New; the reference's Half, On. -/
namespace Go.Proofs.YtmpedblelnpjdaaGreatDoor
open Go.RowKit
set_option linter.unusedSimpArgs false
set_option linter.unusedVariables false
set_option maxRecDepth 100000
set_option maxHeartbeats 4000000
end Go.Proofs.YtmpedblelnpjdaaGreatDoor
/- Package crc: the reference's On; a table in memory: New, fill, ready. -/
namespace Go.Proofs.YtmpedblelnpjdaaGreatDoor
open Go.RowKit
set_option linter.unusedSimpArgs false
set_option linter.unusedVariables false
set_option maxRecDepth 100000
set_option maxHeartbeats 4000000
def bI (l : List Nat) : List Int := l.map fun (x : Nat) => (x : Int)
def isBs (l : List Nat) : Prop := ∀ b ∈ l, b < 256
theorem bI_len (l : List Nat) : (bI l).length = l.length := by simp [bI]
theorem reads_len {w : World} {B n : Nat} {A : Option Addr} {l : List Nat} (h : Reads w B 1 A n ((bI l).map (Value.int .u8))) : l.length = n := by
 have := h.1
 simpa [bI] using this
end Go.Proofs.YtmpedblelnpjdaaGreatDoor
/- Package crc: a table in memory: New, fill, ready. -/
namespace Go.Proofs.YtmpedblelnpjdaaGreatDoor
open Go.RowKit
set_option linter.unusedSimpArgs false
set_option linter.unusedVariables false
set_option maxRecDepth 100000
set_option maxHeartbeats 4000000
def TabC (w : World) (g : Nat) (c0 c1 c3 : Int) (f : Nat → Int) : Prop :=
 ∃ cs : Array Value, Blk w g 218 cs ∧ cs.size = 260 ∧ cs[0]? = some (.int .u32 c0) ∧ cs[1]? = some (.int .i32 c1) ∧ cs[3]? = some (.int .i32 c3) ∧ ∀ j, j < 256 → cs[4 + j]? = some (.int .u32 (f j))
section
variable {w w' : World} {g : Nat} {c0 c1 c3 : Int} {f : Nat → Int}
theorem TabC.lt (h : TabC w g c0 c1 c3 f) : g < w.heap.size := h.choose_spec.1.lt
theorem TabC.frozen (h : TabC w g c0 c1 c3 f) (i : Nat) : w.frozen? ⟨g, i, none⟩ = false := h.choose_spec.1.frozen i
theorem TabC.k0 (h : TabC w g c0 c1 c3 f) : w.cell? ⟨g, 0, none⟩ = some (.int .u32 c0) := by obtain ⟨cs, b, _, h0, _⟩ := h; exact (b.cell 0).trans h0
theorem TabC.k1 (h : TabC w g c0 c1 c3 f) : w.cell? ⟨g, 1, none⟩ = some (.int .i32 c1) := by obtain ⟨cs, b, _, _, h1, _⟩ := h; exact (b.cell 1).trans h1
theorem TabC.k3 (h : TabC w g c0 c1 c3 f) : w.cell? ⟨g, 3, none⟩ = some (.int .i32 c3) := by obtain ⟨cs, b, _, _, _, h3, _⟩ := h; exact (b.cell 3).trans h3
theorem TabC.s0 (h : TabC w g c0 c1 c3 f) (x : Int) : TabC (w.setCell ⟨g, 0, none⟩ (.int .u32 x)) g x c1 c3 f := by
 obtain ⟨cs, b, hs, h0, h1, h3, ht⟩ := h
 refine ⟨_, b.set_ 0 _, by simp [hs], by simp [hs], by simp [h1], by simp [h3], fun j hj => ?_⟩
 rw [Array.getElem?_setIfInBounds_ne (by omega)]; exact ht j hj
theorem TabC.s1 (h : TabC w g c0 c1 c3 f) (x : Int) : TabC (w.setCell ⟨g, 1, none⟩ (.int .i32 x)) g c0 x c3 f := by
 obtain ⟨cs, b, hs, h0, h1, h3, ht⟩ := h
 refine ⟨_, b.set_ 1 _, by simp [hs], by simp [h0], by simp [hs], by simp [h3], fun j hj => ?_⟩
 rw [Array.getElem?_setIfInBounds_ne (by omega)]; exact ht j hj
theorem TabC.s3 (h : TabC w g c0 c1 c3 f) (x : Int) : TabC (w.setCell ⟨g, 3, none⟩ (.int .i32 x)) g c0 c1 x f := by
 obtain ⟨cs, b, hs, h0, h1, h3, ht⟩ := h
 refine ⟨_, b.set_ 3 _, by simp [hs], by simp [h0], by simp [h1], by simp [hs], fun j hj => ?_⟩
 rw [Array.getElem?_setIfInBounds_ne (by omega)]; exact ht j hj
theorem TabC.st (h : TabC w g c0 c1 c3 f) (k : Nat) (hk : k < 256) (x : Int) : TabC (w.setCell ⟨g, 4 + k, none⟩ (.int .u32 x)) g c0 c1 c3 (fun j => if j = k then x else f j) := by
 obtain ⟨cs, b, hs, h0, h1, h3, ht⟩ := h
 refine ⟨_, b.set_ (4 + k) _, by simp [hs], ?_, ?_, ?_, fun j hj => ?_⟩
 ·rw [Array.getElem?_setIfInBounds_ne (by omega)]; exact h0
 ·rw [Array.getElem?_setIfInBounds_ne (by omega)]; exact h1
 ·rw [Array.getElem?_setIfInBounds_ne (by omega)]; exact h3
 ·by_cases hjk : j = k
  ·subst hjk; rw [Array.getElem?_setIfInBounds_self_of_lt (by omega)]; simp
  ·rw [Array.getElem?_setIfInBounds_ne (by omega)]; simp only [if_neg hjk]; exact ht j hj
theorem TabC.drew (h : TabC w g c0 c1 c3 f) : TabC w.drew g c0 c1 c3 f := h
theorem TabC.drewN (h : TabC w g c0 c1 c3 f) (n : Nat) : TabC (w.drewN n) g c0 c1 c3 f := h
theorem TabC.below {B : Nat} (h : TabC w g c0 c1 c3 f) (hb : Below B w w') (hg : g < B) : TabC w' g c0 c1 c3 f := by obtain ⟨cs, b, r⟩ := h; exact ⟨cs, b.below hb hg, r⟩
theorem TabC.chg {S : Nat → Prop} (h : TabC w g c0 c1 c3 f) (hc : Chg w w' S) (hS : ¬ S g) : TabC w' g c0 c1 c3 f := by obtain ⟨cs, b, r⟩ := h; exact ⟨cs, hc.blk b hS, r⟩
theorem TabC.same {f' : Nat → Int} (h : TabC w g c0 c1 c3 f) (hf : ∀ j, j < 256 → f j = f' j) : TabC w g c0 c1 c3 f' := by
 obtain ⟨cs, b, hs, h0, h1, h3, ht⟩ := h
 exact ⟨cs, b, hs, h0, h1, h3, fun j hj => by rw [ht j hj, hf j hj]⟩
end
def tabF (j : Nat) : Int := ((hv 8 j : Nat) : Int)
def dI (d : Bool) : Int := if d then 1 else 0
def Tb (w : World) (g : Nat) (d : Bool) : Prop := TabC w g (dI d) 0 (dI d) (fun j => if d then tabF j else 0)
theorem Chg.drewN {w w' : World} {S : Nat → Prop} (h : Chg w w' S) (n : Nat) : Chg w (w'.drewN n) S := ⟨h.os, h.tape, h.output, h.size, h.block⟩
end Go.Proofs.YtmpedblelnpjdaaGreatDoor
/- Package crc: on, More, Of, At, Made, Slow; the reference's Other, Of, More, At. -/
namespace Go.Proofs.YtmpedblelnpjdaaGreatDoor
open Go.RowKit
set_option linter.unusedSimpArgs false
set_option linter.unusedVariables false
set_option maxRecDepth 100000
set_option maxHeartbeats 1000000
def more (s : Nat) (l : List Nat) : Nat := other (onB (other s) l)
end Go.Proofs.YtmpedblelnpjdaaGreatDoor
/- Package crc: Of, At, Slow; the reference's Other, Of, More, At. -/
namespace Go.Proofs.YtmpedblelnpjdaaGreatDoor
open Go.RowKit
set_option linter.unusedSimpArgs false
set_option linter.unusedVariables false
set_option maxRecDepth 100000
set_option maxHeartbeats 1000000
structure Pt where
 A : Option Addr
 n : Nat
 c : Nat
 B : Nat
 l : List Nat
def Pt.v (p : Pt) : Value := .slice p.A p.n p.c
def Pt.ok (w : World) (g : Nat) (p : Pt) : Prop :=
 isBs p.l ∧ Reads w p.B 1 p.A p.n ((bI p.l).map (Value.int .u8)) ∧ p.B ≤ w.heap.size ∧ (∀ ad, 0 < p.n → p.A = some ad → ad.block ≠ g) ∧ p.n ≤ 9223372036854775806
end Go.Proofs.YtmpedblelnpjdaaGreatDoor
/- Bytes by package fix's texts. -/
namespace Go.Proofs.YtmpedblelnpjdaaGreatDoor
end Go.Proofs.YtmpedblelnpjdaaGreatDoor
/- The law's awake of chapter 2. -/
namespace Go.Proofs.YtmpedblelnpjdaaGreatDoor
open Go.RowKit
set_option linter.unusedSimpArgs false
set_option linter.unusedVariables false
set_option maxRecDepth 100000
set_option maxHeartbeats 1000000
theorem Tb.below {B : Nat} {w w' : World} {g : Nat} {d : Bool} (h : Tb w g d) (hb : Below B w w') (hg : g < B) : Tb w' g d := TabC.below h hb hg
theorem Tb.lt {w : World} {g : Nat} {d : Bool} (h : Tb w g d) : g < w.heap.size := TabC.lt h
end Go.Proofs.YtmpedblelnpjdaaGreatDoor
/- The walk of CrcSums. -/
namespace Go.Proofs.YtmpedblelnpjdaaGreatDoor
open Go.RowKit
set_option linter.unusedSimpArgs false
set_option linter.unusedVariables false
set_option maxRecDepth 100000
set_option maxHeartbeats 1000000
end Go.Proofs.YtmpedblelnpjdaaGreatDoor
/- Package crc: behind, Seal; slices.Equal. -/
namespace Go.Proofs.YtmpedblelnpjdaaGreatDoor
open Go.RowKit
set_option linter.unusedSimpArgs false
set_option linter.unusedVariables false
set_option maxRecDepth 100000
set_option maxHeartbeats 1000000
end Go.Proofs.YtmpedblelnpjdaaGreatDoor
/- Package crc: Fits; the reference's Seal, Fits. -/
namespace Go.Proofs.YtmpedblelnpjdaaGreatDoor
open Go.RowKit
set_option linter.unusedSimpArgs false
set_option linter.unusedVariables false
set_option maxRecDepth 100000
set_option maxHeartbeats 1000000
end Go.Proofs.YtmpedblelnpjdaaGreatDoor
/- Package crc: the reference's Seal, Fits. -/
namespace Go.Proofs.YtmpedblelnpjdaaGreatDoor
open Go.RowKit
set_option linter.unusedSimpArgs false
set_option linter.unusedVariables false
set_option maxRecDepth 100000
set_option maxHeartbeats 1000000
end Go.Proofs.YtmpedblelnpjdaaGreatDoor
/- Package crc: the reference's Fits; Turn. -/
namespace Go.Proofs.YtmpedblelnpjdaaGreatDoor
open Go.RowKit
set_option linter.unusedSimpArgs false
set_option linter.unusedVariables false
set_option maxRecDepth 100000
set_option maxHeartbeats 1000000
end Go.Proofs.YtmpedblelnpjdaaGreatDoor
/- Package crc: the reference's Turn. -/
namespace Go.Proofs.YtmpedblelnpjdaaGreatDoor
open Go.RowKit
set_option linter.unusedSimpArgs false
set_option linter.unusedVariables false
set_option maxRecDepth 100000
set_option maxHeartbeats 1000000
end Go.Proofs.YtmpedblelnpjdaaGreatDoor
/- The walks of CrcSeals and CrcBursts. -/
namespace Go.Proofs.YtmpedblelnpjdaaGreatDoor
open Go.RowKit
set_option linter.unusedSimpArgs false
set_option linter.unusedVariables false
set_option maxRecDepth 100000
set_option maxHeartbeats 2000000
theorem same_yes (A C : Option Addr) (n m c d B D : Nat) (x y : List Int) (w : World) (hB : B ≤ w.heap.size) (hD : D ≤ w.heap.size) (hx : Reads w B 1 A n (x.map (Value.int .u8))) (hy : Reads w D 1 C m (y.map (Value.int .u8))) (hn : n ≤ 9223372036854775806) (hxy : x = y) :
  Calls Tryz.prog 13 #[.slice A n c, .slice C m d] w fun e w' => e = .returned (.bool true) ∧ Below w.heap.size w w' :=
 (same_any A C n m c d B D x y w hB hD hx hy hn).mono fun e w' ⟨he, hb⟩ => ⟨by rw [he, decide_eq_true hxy], hb⟩
end Go.Proofs.YtmpedblelnpjdaaGreatDoor
/- The walk of CrcBursts. -/
namespace Go.Proofs.YtmpedblelnpjdaaGreatDoor
open Go.RowKit
set_option linter.unusedSimpArgs false
set_option linter.unusedVariables false
set_option maxRecDepth 100000
set_option maxHeartbeats 2000000
end Go.Proofs.YtmpedblelnpjdaaGreatDoor

end
section
/- GE: FrmA FrmB FrmC FrmD FrmE FrmF -/
/- Bytes: bytes.Equal, bytes.Clone; the reference's Num; counters of uint64. -/
namespace Go.Proofs.YtmpedblelnpjdaaGreatDoor
open Go.RowKit
set_option linter.unusedSimpArgs false
set_option linter.unusedVariables false
set_option maxRecDepth 100000
set_option maxHeartbeats 1000000
theorem conv_reads {w : World} {B n c : Nat} {A : Option Addr} {l : List Nat} (h : Reads w B 1 A n ((bI l).map (Value.int .u8))) :
  (convert 22 9 (.slice A n c)).run Tryz.prog w = .ok (.string (strOfNums (bI l))) w := by
 have hl := reads_len h
 rcases Nat.eq_zero_or_pos n with hn | hn
 ·subst hn
  obtain rfl : l = [] := List.eq_nil_of_length_eq_zero hl
  exact run_convert_bytes_zero (P := Tryz.prog) w 22 5 Tryz.underlying22 Tryz.underlying5 A c 9 Tryz.underlying9
 ·obtain ⟨ad, hA, _, hc⟩ := h.2 hn
  subst hA
  obtain ⟨b, o, spot⟩ := ad
  have h0 : spot = none := by
   have h00 : ((bI l).map (Value.int .u8))[0]? = some (((bI l).map (Value.int .u8))[0]'(by simp [bI]; omega)) := List.getElem?_eq_getElem _
   have := World.cell?_spot (hc 0 _ h00)
   simpa [Addr.add] using this
  subst h0
  refine run_convert_bytes_arg (P := Tryz.prog) w 22 5 Tryz.underlying22 Tryz.underlying5 b o n c (bI l) (by rw [bI_len]; exact hl) (fun i hi => ?_) 9 Tryz.underlying9
  have hli : i < (bI l).length := by rw [bI_len]; omega
  have := hc i (.int .u8 (bI l)[i]) (by rw [List.getElem?_map, List.getElem?_eq_getElem hli]; rfl)
  rw [Go.WideShapes.add_plain] at this
  rw [this, List.getD_eq_getElem?_getD, List.getElem?_eq_getElem hli]; rfl
theorem u8_inj (x y : List Nat) (hx : isBs x) (hy : isBs y) (h : x.map (fun n => UInt8.ofNat n) = y.map (fun n => UInt8.ofNat n)) : x = y := by
 induction x generalizing y with
 | nil => cases y with
  | nil => rfl
  | cons b y => simp at h
 | cons a x ih =>
  cases y with
  | nil => simp at h
  | cons b y =>
   simp only [List.map_cons, List.cons.injEq] at h
   have ha := hx a (by simp)
   have hb := hy b (by simp)
   have e1 : a = b := by
    have h2 := congrArg UInt8.toNat h.1
    simp only [UInt8.toNat_ofNat'] at h2
    omega
   rw [e1, ih y (fun z hz => hx z (by simp [hz])) (fun z hz => hy z (by simp [hz])) h.2]
theorem str_list (x : List Nat) : (strOfNums (bI x)).toList = x.map fun n => UInt8.ofNat n := by
 rw [Lib.strOfNums_toList]
 simp [Lib.bytesOf, bI]
theorem str_eq (x y : List Nat) (hx : isBs x) (hy : isBs y) : ((strOfNums (bI x)).toList == (strOfNums (bI y)).toList) = decide (x = y) := by
 rw [str_list, str_list, Bool.eq_iff_iff, beq_iff_eq, decide_eq_true_eq]
 exact ⟨u8_inj x y hx hy, fun h => by rw [h]⟩
theorem bytesEqual_any (A C : Option Addr) (n m c d B D : Nat) (x y : List Nat) (w : World) (hx : Reads w B 1 A n ((bI x).map (Value.int .u8))) (hy : Reads w D 1 C m ((bI y).map (Value.int .u8))) (bx : isBs x) (by' : isBs y) :
  Calls Tryz.prog 206 #[.slice A n c, .slice C m d] w fun e w' => e = .returned (.bool (decide (x = y))) ∧ w = w' := by
 have h1 := conv_reads (c := c) hx
 have h2 := conv_reads (c := d) hy
 have HI := Lib.hid (str_eq x y bx by')
 generalize strOfNums (bI x) = sx at *
 generalize strOfNums (bI y) = sy at *
 clear hx hy
 go_enter Tryz.func206, Tryz.ntmps206
 go_wp2
 go_ret
 exact ⟨ret_bool HI.out, rfl⟩
end Go.Proofs.YtmpedblelnpjdaaGreatDoor
/- Package frame: what a frame's bytes are, plain; New, told, Counts, Size, Same; the law's ours, like. -/
namespace Go.Proofs.YtmpedblelnpjdaaGreatDoor
open Go.RowKit
set_option linter.unusedSimpArgs false
set_option linter.unusedVariables false
set_option maxRecDepth 100000
set_option maxHeartbeats 2000000
def hd1 (b : List Nat) : FI × Nat := FI.upto ⟨bI (b.take 3), 0⟩ 1 18446744073709551615
def hd2 (b : List Nat) : FI × Nat := FI.upto (hd1 b).1 2 18446744073709551615
def Cd (w : World) (c g : Nat) (d : Bool) (x y : Int) : Prop := Blk w c 109 #[.pointer (some ⟨g, 0, none⟩), .int .u64 x, .int .u64 y] ∧ Tb w g d
theorem Cd.below {B : Nat} {w w' : World} {c g : Nat} {d : Bool} {x y : Int} (h : Cd w c g d x y) (hb : Below B w w') (hc : c < B) (hg : g < B) : Cd w' c g d x y := ⟨h.1.below hb hc, h.2.below hb hg⟩
theorem tb_ne {w : World} {c g : Nat} {d : Bool} {T : TypeId} {cs : Array Value} (h : Blk w c T cs) (ht : Tb w g d) (hT : T ≠ 218) : c ≠ g := by
 obtain ⟨cs', b, _⟩ := ht
 exact Blk.ne_ h b hT
end Go.Proofs.YtmpedblelnpjdaaGreatDoor
/- Package frame: first. -/
namespace Go.Proofs.YtmpedblelnpjdaaGreatDoor
open Go.RowKit
set_option linter.unusedSimpArgs false
set_option linter.unusedVariables false
set_option maxRecDepth 100000
set_option maxHeartbeats 1500000
end Go.Proofs.YtmpedblelnpjdaaGreatDoor
/- Package frame: Cut, Get. -/
namespace Go.Proofs.YtmpedblelnpjdaaGreatDoor
open Go.RowKit
set_option linter.unusedSimpArgs false
set_option linter.unusedVariables false
set_option maxRecDepth 100000
set_option maxHeartbeats 2000000
theorem Cd.chg {w w' : World} {c g : Nat} {d d' : Bool} {x y : Int} (h : Cd w c g d x y) (hc : Chg w w' (fun k => k = g)) (ht : Tb w' g d') : Cd w' c g d' x y :=
 ⟨hc.blk h.1 (tb_ne h.1 h.2 (by decide)), ht⟩
end Go.Proofs.YtmpedblelnpjdaaGreatDoor
/- Package frame: the reference's Cut, Get; the law's like. -/
namespace Go.Proofs.YtmpedblelnpjdaaGreatDoor
open Go.RowKit
set_option linter.unusedSimpArgs false
set_option linter.unusedVariables false
set_option maxRecDepth 100000
set_option maxHeartbeats 2000000
end Go.Proofs.YtmpedblelnpjdaaGreatDoor
/- Package frame: Put, and of no codec; the law's awake. -/
namespace Go.Proofs.YtmpedblelnpjdaaGreatDoor
open Go.RowKit
set_option linter.unusedSimpArgs false
set_option linter.unusedVariables false
set_option maxRecDepth 100000
set_option maxHeartbeats 2000000
end Go.Proofs.YtmpedblelnpjdaaGreatDoor

end
