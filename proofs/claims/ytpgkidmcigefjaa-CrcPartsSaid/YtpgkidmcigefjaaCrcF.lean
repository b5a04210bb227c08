/- The law's awake of chapter 2. -/
import Derived.Test.YtpgkidmcigefjaaCrcE
import Derived.Test.YtpgkidmcigefjaaFixKit02
import Derived.Lib.SlBytesConst
namespace Go.Proofs.Ytpgkidmcigefjaa
open Go.RowKit
set_option linter.unusedSimpArgs false
set_option linter.unusedVariables false
set_option maxRecDepth 100000
set_option maxHeartbeats 1000000

def nine : List Nat := [49, 50, 51, 52, 53, 54, 55, 56, 57]
theorem nine_crc : crc nine = 3421780262 := by decide +kernel
theorem nine_bs : isBs nine := by unfold isBs nine; decide
theorem Tb.below {B : Nat} {w w' : World} {g : Nat} {d : Bool} (h : Tb w g d) (hb : Below B w w') (hg : g < B) : Tb w' g d := TabC.below h hb hg
theorem Tb.lt {w : World} {g : Nat} {d : Bool} (h : Tb w g d) : g < w.heap.size := TabC.lt h
theorem below_chg {B g : Nat} {w0 w w' : World} (h : Below B w0 w) (hB : B ≤ g) (hg : g < w.heap.size) (hc : Chg w w' (fun k => k = g)) : Below B w0 w' :=
  h.trans ((hc.below (B := g) (by omega) (fun k hk e => by omega)).mono hB)
theorem reads_new (w : World) (l : List Nat) (cs : Array Value) (fr : Nat × Nat) (hcs : cs.toList = (bI l).map (Value.int .u8)) :
    Reads (w.alloc (.cells cs 5 fr)) (w.heap.size + 1) 1 (some ⟨w.heap.size, 0, none⟩) l.length ((bI l).map (Value.int .u8)) := by
  refine ⟨by simp [bI], fun _ => ⟨_, rfl, by simp, fun j u hu => ?_⟩⟩
  rw [Go.WideShapes.add_plain, Nat.zero_add, World.cell?_alloc_mark]
  rw [← hcs] at hu
  simpa using hu
/-- one part in a block of its own -/
theorem one_part {w : World} {A : Option Addr} {n c B : Nat} {l : List Nat} :
    Reads (w.alloc (.cells #[.slice A n c] 25)) (w.heap.size + 1) 1 (some ⟨w.heap.size, 0, none⟩) 1 ([(⟨A, n, c, B, l⟩ : Pt)].map Pt.v) := by
  refine ⟨rfl, fun _ => ⟨_, rfl, by simp, fun j u hu => ?_⟩⟩
  exact cells_new _ _ _ _ _ hu
theorem of_one (g : Nat) (d : Bool) (A : Option Addr) (n c B : Nat) (l : List Nat) (hl : isBs l) (w : World) (h : Tb w g d) (hr : Reads w B 1 A n ((bI l).map (Value.int .u8))) (hB : B ≤ w.heap.size)
    (hA : ∀ ad, 0 < n → A = some ad → ad.block ≠ g) (hn : n ≤ 9223372036854775806) :
    Calls Try.prog 11 #[.pointer (some ⟨g, 0, none⟩), .slice (some ⟨w.heap.size, 0, none⟩) 1 1] (w.alloc (.cells #[.slice A n c] 25)) fun e w' => e = .returned (.int .u32 ((crc l : Nat) : Int)) ∧ Tb w' g true ∧ Chg w w' (fun k => k = g) := by
  have hg := h.lt
  have hb1 : Below w.heap.size w (w.alloc (.cells #[.slice A n c] 25)) := (Below.refl _ _).alloc (Nat.le_refl _) _
  refine (crcOf_any g d (some ⟨w.heap.size, 0, none⟩) 1 1 (w.heap.size + 1) [⟨A, n, c, B, l⟩] _ (h.below hb1 hg) one_part (by simp) (fun ad _ he => by injection he with he; subst he; simp; omega) (fun p hp => ?_) (by decide)).mono ?_
  · simp only [List.mem_singleton] at hp
    subst hp
    exact ⟨hl, hr.alloc hB _, by simp; omega, hA, hn⟩
  · rintro e w' ⟨rfl, h1, h2⟩
    exact ⟨ret_int (by simp [cat]), h1, (Chg.of_below hb1 _).trans h2 (fun _ _ h => h)⟩

theorem awake_any (w : World) : Calls Try.prog 13 #[] w fun e w' => e = .returned (.bool true) ∧ Below w.heap.size w w' := by
  have hcv := fun (w : World) (C : Array Value) (n c : Nat) => Lib.run_convert_bytes_const (P := Try.prog) w 25 5 C n c Try.underlying25 Try.underlying5
  go_enter Try.func13, Try.ntmps13
  go_wp2_with (fail)
  with_reducible refine (crcNew_any _).mono ?_
  rintro e w1 ⟨rfl, h1, h2⟩
  obtain ⟨g, hg⟩ : ∃ g, g = w.heap.size := ⟨_, rfl⟩
  rw [← hg] at h1 ⊢
  have hgl := h1.lt
  have H1 := Lib.hid h1
  have H2 := Lib.hid h2
  have HG := Lib.hid hg
  clear h1 h2 hg
  go_wp2_with (fail)
  with_reducible refine (crcMade_any g false _ H1.out).mono ?_
  rintro e w' ⟨rfl, rfl⟩
  have e0 : dI false = 0 := rfl
  go_wp2_with (fail)
  obtain ⟨W2, hW2⟩ : ∃ W2, W2 = w1.alloc (.cells #[.int .u8 49, .int .u8 50, .int .u8 51, .int .u8 52, .int .u8 53, .int .u8 54, .int .u8 55, .int .u8 56, .int .u8 57] 5 (9, 10)) := ⟨_, rfl⟩
  have hb2 : Below w1.heap.size w1 W2 := by rw [hW2]; exact (Below.refl _ _).alloc (Nat.le_refl _) _
  have hr2 : Reads W2 (w1.heap.size + 1) 1 (some ⟨w1.heap.size, 0, none⟩) 9 ((bI nine).map (Value.int .u8)) := by rw [hW2]; exact reads_new w1 nine _ _ rfl
  have hs2 : W2.heap.size = w1.heap.size + 1 := by rw [hW2]; simp
  have C := Lib.hid (of_one g false (some ⟨w1.heap.size, 0, none⟩) 9 9 (w1.heap.size + 1) nine nine_bs W2 (H1.out.below hb2 hgl) hr2 (by omega) (fun ad _ he => by injection he with he; subst he; simp; omega) (by decide))
  rw [hs2, nine_crc] at C
  subst hW2
  refine C.out.mono ?_
  rintro e w3 ⟨rfl, h3, h4⟩
  have H3 := Lib.hid h3
  have H4 := Lib.hid (below_chg (B := w.heap.size) (H2.out.trans (hb2.mono H2.out.size)) (by have := HG.out; omega) (by omega) h4)
  clear h3 h4 C hr2 hs2 hb2
  go_wp2_with (fail)
  with_reducible refine (crcMade_any g true _ H3.out).mono ?_
  rintro e w' ⟨rfl, rfl⟩
  have e1 : dI true = 1 := rfl
  go_wp2_with (fail)
  have hr5 := reads_new w3 nine #[.int .u8 49, .int .u8 50, .int .u8 51, .int .u8 52, .int .u8 53, .int .u8 54, .int .u8 55, .int .u8 56, .int .u8 57] (9, 10) rfl
  have D := Lib.hid (crcSlow_any (some ⟨w3.heap.size, 0, none⟩) 9 9 _ nine nine_bs _ hr5 (by decide))
  rw [nine_crc] at D
  clear hr5
  refine D.out.mono ?_
  rintro e w' ⟨rfl, rfl⟩
  go_wp2
  go_ret
  exact ⟨rfl, H4.out.alloc H4.out.size _⟩
end Go.Proofs.Ytpgkidmcigefjaa
