/- The reference's Learn of any. -/
import Derived.Test.YtidfnajbanjnaaaAtlT
namespace Go.Proofs.Ytidfnajbanjnaaa
open Go.RowKit
theorem refLearn_any (A : Option Addr) (n c B C : Nat) (l : List Cf) (x : Cf) (w : World) (hl : CfsIn w B A n l) (hB : B ≤ w.heap.size) (hx : CfIn w C x) (hC : C ≤ w.heap.size) (hn : n ≤ 1000) (hc : n ≤ c) (hm : c ≤ maxLen) :
    Calls Try.prog 12 #[.slice A n c, x.agg] w fun e w' => RLPost A n l x w e w' := by
  by_cases h0 : x.ch < 0
  · exact refLearn_no A n c B C l x w hl hB hx hC hn hc hm (Or.inl h0)
  by_cases h1 : (n : Int) ≤ x.ch
  · exact refLearn_no A n c B C l x w hl hB hx hC hn hc hm (Or.inr h1)
  obtain ⟨k, hk⟩ : ∃ k : Nat, x.ch = k := ⟨x.ch.toNat, by omega⟩
  have hkn : k < n := by omega
  cases hb : learnB (l.map Cf.val) x
  · exact refLearn_same A n c B C k l x w hl hB hx hC hn hc hm hk hkn hb
  · exact refLearn_new A n c B C k l x w hl hB hx hC hn hc hm hk hkn hb
end Go.Proofs.Ytidfnajbanjnaaa
