/- (*Atlas).Learn of any. -/
import Derived.Test.YtidfnajbanjnaaaAtlP
import Derived.Test.YtidfnajbanjnaaaAtlQ
import Derived.Test.YtidfnajbanjnaaaAtlR
namespace Go.Proofs.Ytidfnajbanjnaaa
open Go.RowKit
theorem atLearn_any (b0 G C : Nat) (q h cB : Nat) (o : List Cf) (x : Cf) (w : World) (a : AtX w b0 G q h cB o) (hx : CfIn w C x) (hC : C ≤ w.heap.size) (hxl : x.len ≤ 1000000) :
    Calls Try.prog 13 #[.pointer (some ⟨G, 0, none⟩), x.agg] w fun e w' => ALPost b0 G q h cB (o.map Cf.val) x w e w' := by
  by_cases h0 : x.ch < 0
  · exact atLearn_no b0 G C q h cB o x w a hx hC (Or.inl h0)
  by_cases h1 : (o.length : Int) ≤ x.ch
  · exact atLearn_no b0 G C q h cB o x w a hx hC (Or.inr h1)
  obtain ⟨k, hk⟩ : ∃ k : Nat, x.ch = k := ⟨x.ch.toNat, by omega⟩
  have hkn : k < o.length := by omega
  cases hb : learnB (o.map Cf.val) x
  · exact atLearn_same b0 G C q h cB k o x w a hx hC hk hkn hb
  · exact atLearn_new b0 G C q h cB k o x w a hx hC hk hkn hb hxl
end Go.Proofs.Ytidfnajbanjnaaa
