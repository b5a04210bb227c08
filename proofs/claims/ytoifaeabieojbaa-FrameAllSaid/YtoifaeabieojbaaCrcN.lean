/- The walks of CrcSeals and CrcBursts. -/
import Derived.Test.YtoifaeabieojbaaCrcL
namespace Go.Proofs.Ytoifaeabieojbaa
open Go.RowKit
set_option linter.unusedSimpArgs false
set_option linter.unusedVariables false
set_option maxRecDepth 100000
set_option maxHeartbeats 2000000

theorem tb_alloc (w : World) (cs : Array Value) (h : cs = #[.int .u32 0, .int .i32 0, .int .u32 0, .int .i32 0] ++ Array.replicate 256 (.int .u32 0)) : Tb (w.alloc (.cells cs 86)) w.heap.size false := by
  subst h
  refine ⟨_, Blk.new _ _ _, by rfl, by rfl, by rfl, by rfl, ?_⟩
  intro j hj
  show (#[Value.int .u32 0, .int .i32 0, .int .u32 0, .int .i32 0] ++ Array.replicate 256 (Value.int .u32 0))[4 + j]? = _
  rw [Array.getElem?_append_right (by simp), Array.getElem?_replicate, if_pos (by simpa using hj)]; rfl
/-- a row of one's own as a slice that reads, away from block g -/
theorem own_far {w : World} {base g n : Nat} {v : Value} {xs : List Value} (h : w.ownsRow base 5 1 v n xs) (hg : g < base) :
    ∃ A c, v = .slice A n c ∧ Reads w w.heap.size 1 A n xs ∧ (∀ ad, 0 < n → A = some ad → ad.block ≠ g) ∧ n ≤ c ∧ c ≤ maxLen := by
  obtain ⟨A, c, rfl, hr, h1, h2⟩ := own_slice h
  refine ⟨A, c, rfl, hr, fun ad h0 he => ?_, h1, h2⟩
  obtain ⟨g', cap, hv, hb, _⟩ := h.form h0
  subst he
  injection hv with hv
  injection hv with hv
  subst hv
  show g' ≠ g
  have := (h.lt g' rfl).1
  omega
theorem same_yes (A C : Option Addr) (n m c d B D : Nat) (x y : List Int) (w : World) (hB : B ≤ w.heap.size) (hD : D ≤ w.heap.size) (hx : Reads w B 1 A n (x.map (Value.int .u8))) (hy : Reads w D 1 C m (y.map (Value.int .u8))) (hn : n ≤ 9223372036854775806) (hxy : x = y) :
    Calls Try.prog 14 #[.slice A n c, .slice C m d] w fun e w' => e = .returned (.bool true) ∧ Below w.heap.size w w' :=
  (same_any A C n m c d B D x y w hB hD hx hy hn).mono fun e w' ⟨he, hb⟩ => ⟨by rw [he, decide_eq_true hxy], hb⟩
theorem tchg {w w' : World} {B size n g : Nat} {A : Option Addr} {xs : List Value} (h : Reads w B size A n xs) (hB : B ≤ w.heap.size) (hA : ∀ ad, 0 < n → A = some ad → ad.block ≠ g) (hc : Chg w w' (fun k => k = g)) : Reads w' B size A n xs := hc.reads h hB hA
end Go.Proofs.Ytoifaeabieojbaa
