/- A sweep's worker from its birth to the group's Done: as the phase asks. -/
import Derived.Test.YtkcknoodcgmndaaSwH
import Derived.Conc.WgGenN2
namespace Go.Proofs.Ytkcknoodcgmndaa
open Go.Conc Go.RowKit Go.Conc.Lib Go.ConcR.Gen
open Go.ConcN (WgLive Has)
open Go.ConcN.Gen (doneN)
open Go.ConcR (WgAt stA)
set_option linter.unusedVariables false
set_option linter.unusedSimpArgs false
set_option maxRecDepth 100000
set_option maxHeartbeats 4000000
def b35 : Frame := baseD 35
noncomputable def bot35 : Frame := { (default : Frame) with fn := (Program.funcs Try.prog).size, defers := [], mode := .panicking [goexitEntry] }
def call35 (Wg C mB bB : Nat) : Deferred := { target := .fn (.func 35) #[.pointer (some ⟨Wg, 0, none⟩), .pointer (some ⟨C, 0, none⟩), .pointer (some ⟨mB, 0, none⟩), .pointer (some ⟨bB, 0, none⟩)], args := #[] }
/-- Done has left: the literal leaves. -/
theorem quits35 (T : Array Value) (todo : List Item) : QuitsD Try.prog 2 0 (G { b35.at ⟨T, []⟩ todo with mode := .returning } [bot35]) := by
  refine QuitsD.ctl (g' := G bot35 []) rfl (fun w => ?_) ?_
  · simp [G, stepG, unwind, doReturn, results, Frame.at, b35, baseD, bot35, Try.func35, Try.f35, seen, GStep.after, goexitEntry]
  refine QuitsD.ctl (g' := { G bot35 [] with status := .finished }) rfl (fun w => ?_) ⟨rfl, rfl⟩
  simp [G, stepG, unwind, bot35, goexitEntry, Frame.catches]
  rfl
theorem born35_step (Wg C mB bB : Nat) (w : World) : stepG Try.prog false (born Try.prog (call35 Wg C mB bB)) w =
    .go (G (b35.at ⟨#[.pointer (some ⟨Wg, 0, none⟩), .pointer (some ⟨C, 0, none⟩), .pointer (some ⟨mB, 0, none⟩), .pointer (some ⟨bB, 0, none⟩)] ++ Array.replicate 16 undef, []⟩ [.code (Try.f35.body.getD .skip)]) [bot35]) w #[] := by
  simp [born, call35, stepG, unwind, callDeferred, invoke, callFunc, Try.func35, Try.f35, seen, GStep.after, G, Frame.enter, Frame.at, b35, baseD, bot35]
theorem done35 {s : SwP} {C mB bB Mb cap d o cap2 : Nat} {A : Option Addr} {L : List Int} {T : Array Value} {todo : List Item} {w : World} (hF : SwK s C mB bB Mb cap A d o cap2 L w) :
    DoneW Try.prog (swCfg s) C (G ((baseD lnk.done).at ⟨#[.pointer (some ⟨s.Wg, 0, none⟩), undef, undef, undef], []⟩ [.code (body_done lnk)]) [{ b35.at ⟨T, []⟩ todo with mode := .returning }, bot35]) w := by
  have hH : Has C 0 (.slice A L.length cap2) w := by simp [Has, World.cell?, hF.part]
  exact ⟨23, _, doneN wgLib (Own := E0) (Rd := E0) (Wg := s.Wg) (C := C) (n := 1) (Low := 0) (k := 1) (qt := 2) rfl (quits35 T todo) w ⟨hF.live, hH⟩⟩
theorem run35 {s : SwP} {k C mB bB Mb cap d o cap2 : Nat} {A : Option Addr} {L : List Int} (K : s.Ok) (hno : s.has = false → s.nn = 0) (ko : SwKo s C mB bB Mb d L) (hLs : L.length < 4611686018427387904) (w : World) (hF : SwK s C mB bB Mb cap A d o cap2 L w) :
    ∀ N, RunU Try.prog (swCfg s) k C N (mkU s.nn L) (born Try.prog (call35 s.Wg C mB bB)) w := by
  have rl : ∀ {w w₁ : World}, SwK s C mB bB Mb cap A d o cap2 L w → RW (swCfg s) C w w₁ → SwK s C mB bB Mb cap A d o cap2 L w₁ := fun h r => h.of ko r.live fun g ob hg => hg.keep r
  intro N
  cases N with
  | zero => trivial
  | succ N =>
    have hB := body35_V (k := k) (N := N) (cap2 := cap2) (cap := cap) (o := o) (A := A) K hno ko hLs
    have ret : ∀ (N' : Nat) (u' : SU) (a' : Act) (w' : World) (todo : List Item), u'.todo = [] → SwK s C mB bB Mb cap A d o cap2 L w' → a'.defers = [dcall 36 #[.pointer (some ⟨s.Wg, 0, none⟩)]] →
        GV Try.prog (swCfg s) k C N' u' 3 (G { b35.at a' todo with mode := .returning } [bot35]) w' := by
      intro N' u' a' w' todo ht hK hd
      refine Goes.step rfl fun w₁ h₁ => ?_
      replace hK := rl hK h₁
      clear h₁
      rw [stepG_unwind_enter hd Try.func36 (by kernel_rfl) rfl]
      refine ⟨DW.refl _ _ _, Goes.stop fun w₂ h₂ => .inl ⟨ht, rfl, ?_⟩⟩
      exact done35 (rl hK h₂)
    refine ⟨4 + bN N L.length + 1, Goes.step rfl fun w₁ h₁ => ?_⟩
    rw [born35_step]
    refine ⟨DW.refl _ _ _, ?_⟩
    refine hB w₁ (rl hF h₁) b35 [] [bot35] 4 rfl (by simp [b35, baseD]) ?_
    rintro N' u' e a' w' ⟨he, ht, hK, hd⟩
    rcases he with rfl | rfl
    · refine Goes.step rfl fun w₂ h₂ => ?_
      rw [stepG_end]
      exact ⟨DW.refl _ _ _, (ret N' u' a' w' [] ht hK hd).rely h₂⟩
    · exact fun todo => (ret N' u' a' w' todo ht hK hd).mono (by omega)
end Go.Proofs.Ytkcknoodcgmndaa
