/- The table of kinds, out of what the row lists. -/
import Derived.Test.YtmpedblelnpjdaaGreatDoorZGF
import Derived.LaidMore
import Derived.OpenShut
import Derived.ProofKit
import Derived.MakeChecks
import Derived.LaidHandle
import Derived.ChangeArms
namespace Go.Proofs.YtmpedblelnpjdaaGreatDoor
open Go.ChangeShapes Go.WideShapes Go.RowKit
set_option linter.unusedSimpArgs false
set_option linter.unusedVariables false
set_option maxHeartbeats 4000000
set_option maxRecDepth 100000
def datK {H : Type} (D : DataW H) (k j : Nat) : Option (DataW H) := match D with
 | .agg l => match l[k]? with
  | some (.agg [_, .agg m]) => m[j]?
  | _ => none
 | _ => none
def litIs {H : Type} (d : Option (DataW H)) (n : Int) : Bool := match d with
 | some (.lit (.int .i64 m)) => m == n
 | _ => false
theorem kinds_all : ((List.range 21).all fun k => (List.range 6).all fun j => litIs (datK (H := Unit) Rows.laid_catenary_letter_kinds k j) (kindP k j)) = true := by kernel_rfl
theorem kinds_dat (k j : Nat) (hk : k < 21) (hj : j < 6) : datK (H := Unit) Rows.laid_catenary_letter_kinds k j = some (.lit (.int .i64 (kindP k j))) := by
 have h := List.all_eq_true.1 kinds_all k (by simpa using hk)
 have h := List.all_eq_true.1 h j (by simpa using hj)
 unfold litIs at h
 split at h
 ·rename_i m e
  rw [e]
  have : m = kindP k j := by simpa using h
  rw [this]
 ·cases h
theorem gKinds : Tryz.prog.globalNamed "catenary/letter.kinds" = some 0 := by kernel_rfl
theorem tKinds : (Tryz.prog.globals[0]?).map (·.type) = some 204 := by kernel_rfl
theorem cKind : Tryz.prog.cellsOf 203 = 7 := by kernel_rfl
theorem c6 : Tryz.prog.cellsOf 201 = 6 := by kernel_rfl
theorem c1i : Tryz.prog.cellsOf 3 = 1 := by kernel_rfl
theorem kinds_cells {W : World} {cs : Array Value} {fuel : Nat} {p : List MemPlace}
  (hd : DataW.trod (fun _ => ()) Tryz.prog W 0 (fun _ => true) false fuel 204 cs.toList = some (Rows.laid_catenary_letter_kinds, p)) (k j : Nat) (hk : k < 21) (hj : j < 6) : cs[k * 7 + 1 + j]? = some (.int .i64 (kindP k j)) := by
 have hD := kinds_dat k j hk hj
 obtain ⟨xs, m, rfl, hx, hlen, hn, hel⟩ := DataW.trod_array Tryz.underlying204 hd
 simp only [Prod.mk.injEq] at hx
 have h1 := hel k hk
 rw [cKind] at h1
 have hxk : xs[k]? = some (xs[k]'(by omega)) := List.getElem?_eq_getElem (by omega)
 rw [hxk] at h1
 obtain ⟨ys, m2, rfl, hy, hlen2, hn2, hf⟩ := DataW.trod_struct Tryz.underlying203 h1
 have hn2' : ys.length = 2 := by rw [hn2]; rfl
 obtain ⟨y0, y1, rfl⟩ : ∃ y0 y1, ys = [y0, y1] := by
  match ys, hn2' with
  | [a, b], _ => exact ⟨a, b, rfl⟩
 have h2 : DataW.trod (fun _ => ()) Tryz.prog W 0 (fun _ => true) false m2 201 ((((cs.toList.drop (k * 7)).take 7).drop 1).take (Tryz.prog.cellsOf 201)) = [y0, y1][1]? := hf 1 _ rfl
 have hy1 : [y0, y1][1]? = some y1 := rfl
 rw [hy1] at h2
 rw [c6] at h2
 obtain ⟨zs, m3, rfl, hz, hlen3, hn3, hg⟩ := DataW.trod_array Tryz.underlying201 h2
 have h3 := hg j hj
 rw [c1i] at h3
 have hzj : zs[j]? = some (zs[j]'(by omega)) := List.getElem?_eq_getElem (by omega)
 rw [hzj] at h3
 obtain ⟨n, hcs, he, _⟩ := DataW.trod_int Tryz.underlying3 h3
 -- the datum
 have e1 : y1.1 = .agg (zs.map (·.1)) := by rw [hz]
 have e2 : (xs[k]'(by omega)).1 = .agg [y0.1, y1.1] := by rw [hy]; rfl
 have e3 : (zs[j]'(by omega)).1 = .lit (.int .i64 n) := by rw [he]
 have hn' : n = kindP k j := by
  rw [hx.1] at hD
  unfold datK at hD
  simp only [List.getElem?_map, hxk, Option.map_some, e2, e1] at hD
  simp only [hzj, Option.map_some, e3, Option.some.injEq] at hD
  injection hD with hD
  injection hD
 subst hn'
 have h0 : (List.take 1 (List.drop (j * 1) (List.take 6 (List.drop 1 (List.take 7 (List.drop (k * 7) cs.toList))))))[0]? = some (.int .i64 (kindP k j)) := by rw [hcs]; rfl
 simp only [Nat.mul_one] at h0
 rw [List.getElem?_take_of_lt (by omega), List.getElem?_drop, List.getElem?_take_of_lt (by omega), List.getElem?_drop, List.getElem?_take_of_lt (by omega), List.getElem?_drop] at h0
 rw [← Array.getElem?_toList, ← h0]
 congr 1
 omega
theorem kinds_of_laid {W : World} (h : laidMetH Tryz.prog [("catenary/letter.kinds", Rows.laid_catenary_letter_kinds)] W) : KindsAt W := by
 rw [MakeChecks.laidMetH_plain _ _ _ (by kernel_rfl)] at h
 obtain ⟨ps, ⟨g0, t0, cs0, f0, p0, q0, hg0, ht0, hv0, hd0, _, _⟩, _, _⟩ := h
 obtain rfl := Option.some.inj (gKinds.symm.trans hg0)
 obtain rfl := Option.some.inj (tKinds.symm.trans ht0)
 exact ⟨fun k j hk hj => (World.var?_cell hg0 hv0 _).trans (kinds_cells hd0 k j hk hj)⟩
end Go.Proofs.YtmpedblelnpjdaaGreatDoor
