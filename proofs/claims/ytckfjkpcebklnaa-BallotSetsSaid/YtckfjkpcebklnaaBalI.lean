/- Contracts of Same, With and Set. -/
import Derived.Test.YtckfjkpcebklnaaBalH
import Derived.Test.YtckfjkpcebklnaaMemA
namespace Go.Proofs.Ytckfjkpcebklnaa
open Go.RowKit
set_option linter.unusedSimpArgs false
set_option linter.unusedVariables false

theorem same_any (A B : Option Addr) (n c d : Nat) (zs : List Int) (b1 b2 : Nat) (w : World) (hn : n ≤ 9223372036854775807) (h1 : Reads w b1 1 A n (zs.map (Value.int .i64))) (h2 : Reads w b2 1 B n (zs.map (Value.int .i64))) :
    Calls Try.prog 24 #[.slice A n c, .slice B n d] w fun e w' => e = .returned (.bool true) ∧ ∃ m, w' = w.drewN m := by
  have H1 := Lib.hid h1
  have H2 := Lib.hid h2
  clear h1 h2
  go_enter Try.func24, Try.ntmps24
  go_wp2
  go_loopw [5] (fun i wr => ∃ k m : Nat, k ≤ n ∧ i = .int .i64 k ∧ wr = w.drewN m) (fun i _ => n - (intOf i).toNat)
  case atStart => exact ⟨0, 0, by omega, rfl, rfl⟩
  case round =>
    obtain ⟨k, m, hk, rfl, rfl⟩ := hrel
    by_cases hlt : k < n
    · obtain ⟨a1, z1, rfl, _, x1, y1⟩ := reads_int H1.out hlt
      obtain ⟨a2, z2, rfl, _, x2, y2⟩ := reads_int H2.out hlt
      obtain rfl : z1 = z2 := Option.some.inj (x1.symm.trans x2)
      have hlt' : (k : Int) < n := by omega
      clear x1 x2
      go_wp2
      go_quiet (fail)
      go_wp2
      go_roundw
      case rel => exact ⟨k + 1, _, by omega, by go_num, rfl⟩
      case measure => simp [intOf]; omega
    · obtain rfl : k = n := by omega
      go_wp2
      go_ret
      exact ⟨rfl, _, rfl⟩

end Go.Proofs.Ytckfjkpcebklnaa
