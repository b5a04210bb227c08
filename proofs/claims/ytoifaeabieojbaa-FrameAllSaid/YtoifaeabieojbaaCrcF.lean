/- The law's awake of chapter 2. -/
import Derived.Test.YtoifaeabieojbaaCrcE
import Derived.Test.YtoifaeabieojbaaFixKit03
import Derived.Lib.SlBytesConst
namespace Go.Proofs.Ytoifaeabieojbaa
open Go.RowKit
set_option linter.unusedSimpArgs false
set_option linter.unusedVariables false
set_option maxRecDepth 100000
set_option maxHeartbeats 1000000

def nine : List Nat := [49, 50, 51, 52, 53, 54, 55, 56, 57]
theorem nine_crc : crc nine = 3421780262 := by decide +kernel
theorem nine_bs : isBs nine := by unfold isBs nine; decide
theorem Tb.below {B : Nat} {w w' : World} {g : Nat} {d : Bool} (h : Tb w g d) (hb : Below B w w') (hg : g < B) : Tb w' g d := TabC.below h hb hg
theorem Tb.lt {w : World} {g : Nat} {d : Bool} (h : Tb w g d) : g < w.heap.size := TabC.lt h
theorem below_chg {B g : Nat} {w0 w w' : World} (h : Below B w0 w) (hB : B ≤ g) (hg : g < w.heap.size) (hc : Chg w w' (fun k => k = g)) : Below B w0 w' :=
  h.trans ((hc.below (B := g) (by omega) (fun k hk e => by omega)).mono hB)
theorem reads_new (w : World) (l : List Nat) (cs : Array Value) (fr : Nat × Nat) (hcs : cs.toList = (bI l).map (Value.int .u8)) :
    Reads (w.alloc (.cells cs 5 fr)) (w.heap.size + 1) 1 (some ⟨w.heap.size, 0, none⟩) l.length ((bI l).map (Value.int .u8)) := by
  refine ⟨by simp [bI], fun _ => ⟨_, rfl, by simp, fun j u hu => ?_⟩⟩
  rw [Go.WideShapes.add_plain, Nat.zero_add, World.cell?_alloc_mark]
  rw [← hcs] at hu
  simpa using hu
/-- one part in a block of its own -/
theorem one_part {w : World} {A : Option Addr} {n c B : Nat} {l : List Nat} :
    Reads (w.alloc (.cells #[.slice A n c] 22)) (w.heap.size + 1) 1 (some ⟨w.heap.size, 0, none⟩) 1 ([(⟨A, n, c, B, l⟩ : Pt)].map Pt.v) := by
  refine ⟨rfl, fun _ => ⟨_, rfl, by simp, fun j u hu => ?_⟩⟩
  exact cells_new _ _ _ _ _ hu
theorem of_one (g : Nat) (d : Bool) (A : Option Addr) (n c B : Nat) (l : List Nat) (hl : isBs l) (w : World) (h : Tb w g d) (hr : Reads w B 1 A n ((bI l).map (Value.int .u8))) (hB : B ≤ w.heap.size)
    (hA : ∀ ad, 0 < n → A = some ad → ad.block ≠ g) (hn : n ≤ 9223372036854775806) :
    Calls Try.prog 59 #[.pointer (some ⟨g, 0, none⟩), .slice (some ⟨w.heap.size, 0, none⟩) 1 1] (w.alloc (.cells #[.slice A n c] 22)) fun e w' => e = .returned (.int .u32 ((crc l : Nat) : Int)) ∧ Tb w' g true ∧ Chg w w' (fun k => k = g) := by
  have hg := h.lt
  have hb1 : Below w.heap.size w (w.alloc (.cells #[.slice A n c] 22)) := (Below.refl _ _).alloc (Nat.le_refl _) _
  refine (crcOf_any g d (some ⟨w.heap.size, 0, none⟩) 1 1 (w.heap.size + 1) [⟨A, n, c, B, l⟩] _ (h.below hb1 hg) one_part (by simp) (fun ad _ he => by injection he with he; subst he; simp; omega) (fun p hp => ?_) (by decide)).mono ?_
  · simp only [List.mem_singleton] at hp
    subst hp
    exact ⟨hl, hr.alloc hB _, by simp; omega, hA, hn⟩
  · rintro e w' ⟨rfl, h1, h2⟩
    exact ⟨ret_int (by simp [cat]), h1, (Chg.of_below hb1 _).trans h2 (fun _ _ h => h)⟩

end Go.Proofs.Ytoifaeabieojbaa
