/- CallerOnce: the answers, and what holds from round to round. -/
import Derived.Test.YtnnegldaekmgbaaGreatDoorCalG
import Derived.Test.YtnnegldaekmgbaaGreatDoorCalI
import Derived.Test.YtnnegldaekmgbaaGreatDoorCalH
namespace Go.Proofs.YtnnegldaekmgbaaGreatDoor
open Go.RowKit
set_option linter.unusedSimpArgs false
set_option linter.unusedVariables false
set_option maxHeartbeats 8000000
set_option maxRecDepth 100000

def wrLt (fr vr cd : Int) : Lt := { Lt.zero with kd := 18, fr := fr, tw := 201, nu := 1, vr := vr, cd := cd }
def gtLt (fr vr ky : Int) (A : Option Addr) : Lt := { Lt.zero with kd := 20, fr := fr, tw := 201, nu := 1, vr := vr, ky := ky, dA := A, dn := 1, dp := 1 }
open Classical in
theorem chk_wr (fr vr cd : Int) (hf : 1 ≤ fr ∧ fr ≤ 24) (hc : 0 ≤ cd ∧ cd ≤ 255) : chkX ⟨wrLt fr vr cd, [], [], [], []⟩ = 0 := by
  unfold chkX
  rw [if_neg (by simp only [wrLt]; omega), if_pos]
  refine ⟨?_, rfl, ?_, ?_⟩
  · show addrB fr = true
    unfold addrB
    simp [hf.1, hf.2]
  · unfold sameB
    rw [decide_eq_true_eq]
    have f6 : partF 18 15 6 = true := by decide
    have f7 : partF 18 15 7 = true := by decide
    have f9 : partF 18 15 9 = true := by decide
    simp only [LV.mask, Lt.mask, LV.val, wrLt, Lt.zero, show (18 : Int).toNat = 18 from rfl, f6, f7, f9, if_true, ite_self, List.map_nil]
  · refine List.all_eq_true.2 (fun i hi => ?_)
    have hp : partsI 18 = [6, 7, 9] := by decide
    have hi : i ∈ partsI 18 := hi
    rw [hp] at hi
    simp at hi
    rcases hi with rfl | rfl | rfl
    · rfl
    · show decide (0 ≤ cd ∧ cd ≤ 255) = true
      exact decide_eq_true hc
    · rfl
open Classical in
theorem chk_gt (fr vr ky : Int) (A : Option Addr) (d : Int) (hf : 1 ≤ fr ∧ fr ≤ 24) : chkX ⟨gtLt fr vr ky A, [], [], [], [d]⟩ = 0 := by
  unfold chkX
  rw [if_neg (by simp only [gtLt]; omega), if_pos]
  refine ⟨?_, rfl, ?_, ?_⟩
  · show addrB fr = true
    unfold addrB
    simp [hf.1, hf.2]
  · unfold sameB
    rw [decide_eq_true_eq]
    have f6 : partF 20 15 6 = true := by decide
    have f8 : partF 20 15 8 = true := by decide
    have f9 : partF 20 15 9 = true := by decide
    have f14 : partF 20 15 14 = true := by decide
    simp only [LV.mask, Lt.mask, LV.val, gtLt, Lt.zero, show (20 : Int).toNat = 20 from rfl, f6, f8, f9, f14, if_true, ite_self, List.map_nil]
  · refine List.all_eq_true.2 (fun i hi => ?_)
    have hp : partsI 20 = [6, 8, 9, 14] := by decide
    have hi : i ∈ partsI 20 := hi
    rw [hp] at hi
    simp at hi
    rcases hi with rfl | rfl | rfl | rfl
    · rfl
    · rfl
    · rfl
    · rfl
theorem wr_in (W : World) (B : Nat) (fr vr cd : Int) (hf : 1 ≤ fr ∧ fr ≤ 24) (hv : 0 ≤ vr ∧ vr ≤ 255) (hc : 0 ≤ cd ∧ cd ≤ 255) : LIn W B ⟨wrLt fr vr cd, [], [], [], []⟩ :=
  ⟨Reads.none_, Reads.none_, UpsIn.nil _ _, Reads.none_, fun z hz => (by cases hz), by constructor <;> simp only [wrLt, Lt.zero] <;> omega, fun v hv => (by cases hv), fun v hv => (by cases hv), ⟨Nat.le_refl _, show (0 : Nat) ≤ maxLen by decide⟩, ⟨Nat.le_refl _, show (0 : Nat) ≤ maxLen by decide⟩, ⟨Nat.le_refl _, show (0 : Nat) ≤ maxLen by decide⟩, ⟨Nat.le_refl _, show (0 : Nat) ≤ maxLen by decide⟩⟩
theorem gt_in (W : World) (q : Nat) (fr vr ky d : Int) (hb : Blk W q 5 #[.int .u8 d]) (hf : 1 ≤ fr ∧ fr ≤ 24) (hv : 0 ≤ vr ∧ vr ≤ 255) (hk : 0 ≤ ky ∧ ky ≤ 4294967295) (hd : 0 ≤ d ∧ d ≤ 255) : LIn W W.heap.size ⟨gtLt fr vr ky (some ⟨q, 0, none⟩), [], [], [], [d]⟩ := by
  refine ⟨Reads.none_, Reads.none_, UpsIn.nil _ _, ⟨rfl, fun _ => ⟨_, rfl, hb.lt, fun j u hu => ?_⟩⟩, fun z hz => ?_, by constructor <;> simp only [gtLt, Lt.zero] <;> omega, fun v hv => (by cases hv), fun v hv => (by cases hv), ⟨Nat.le_refl _, show (0 : Nat) ≤ maxLen by decide⟩, ⟨Nat.le_refl _, show (0 : Nat) ≤ maxLen by decide⟩, ⟨Nat.le_refl _, show (0 : Nat) ≤ maxLen by decide⟩, ⟨Nat.le_refl _, show (1 : Nat) ≤ maxLen by decide⟩⟩
  · rw [Go.WideShapes.add_plain, hb.cell]
    simpa using hu
  · simp at hz; omega
theorem wr_near (fr vr cd : Int) : LV.near ⟨wrLt fr vr cd, [], [], [], []⟩ := ⟨fun u hu => (by cases hu), show (0 : Nat) ≤ 1000000 by decide, show (0 : Nat) ≤ 1000000 by decide, show (0 : Nat) ≤ 1000000 by decide, show (0 : Nat) ≤ 1000000 by decide⟩
theorem gt_near (fr vr ky d : Int) (A : Option Addr) : LV.near ⟨gtLt fr vr ky A, [], [], [], [d]⟩ := ⟨fun u hu => (by cases hu), show (0 : Nat) ≤ 1000000 by decide, show (0 : Nat) ≤ 1000000 by decide, show (1 : Nat) ≤ 1000000 by decide, show (0 : Nat) ≤ 1000000 by decide⟩
theorem once_hdr (k f v : Int) (w : World) : (Instr.build 48 #[(0, .int .i64 k), (1, .int .i64 f), (2, .int .i64 201), (6, .int .u64 1), (9, .int .u64 v)]).run Tryz.prog w = .ok (Lt.agg { Lt.zero with kd := k, fr := f, tw := 201, nu := 1, vr := v }) w := by kernel_rfl
def OnceZ (o : Opn) (c1 c : Cl) (p0 v0 : Int) : Prop := ∃ (r : Rp) (rb : List Int), c = c1.answered r rb ∧ r.cd = (if o.kd = 1 then 0 else p0) ∧ r.vr = v0 ∧ rb = (if o.kd = 1 then [p0] else []) ∧ r.n = rb.length
structure OnceI (w0 : World) (lo g G h : Nat) (vs : List (Int × Int × List Int × Bool × Int)) (c : Cl) (o : Opn) (b : Nat) (p0 p1 v0 v1 : Int) (wr : World) : Prop where
  cal : CalAt wr lo g G h vs c
  opb : Blk wr b 26 o.cells
  cdb : Blk wr (b + 1) 27 #[.int .u8 p0, .int .u8 p1]
  vrb : Blk wr (b + 2) 27 #[.int .u8 v0, .int .u8 v1]
  bel : Below w0.heap.size w0 wr
theorem OnceI.below {w0 wr W : World} {lo g G h b : Nat} {vs : List (Int × Int × List Int × Bool × Int)} {c : Cl} {o : Opn} {p0 p1 v0 v1 : Int} (a : OnceI w0 lo g G h vs c o b p0 p1 v0 v1 wr) (hb : Below wr.heap.size wr W) : OnceI w0 lo g G h vs c o b p0 p1 v0 v1 W :=
  ⟨a.cal.below hb, a.opb.below hb a.opb.lt, a.cdb.below hb a.cdb.lt, a.vrb.below hb a.vrb.lt, a.bel.trans (hb.mono a.bel.size)⟩
/-- behind what changes a caller -/
theorem OnceI.chg {w0 wr W : World} {lo g G h b : Nat} {vs : List (Int × Int × List Int × Bool × Int)} {c c' : Cl} {o : Opn} {p0 p1 v0 v1 : Int} {S : Nat → Prop} (a : OnceI w0 lo g G h vs c o b p0 p1 v0 v1 wr) (hc : Chg wr W S) (hS : ∀ i, S i → lo ≤ i) (hlo : b + 2 < lo) (hw : w0.heap.size ≤ lo) (hn : CalAt W lo g G h vs c') : OnceI w0 lo g G h vs c' o b p0 p1 v0 v1 W :=
  ⟨hn, hc.blk a.opb (fun e => by have := hS _ e; omega), hc.blk a.cdb (fun e => by have := hS _ e; omega), hc.blk a.vrb (fun e => by have := hS _ e; omega), a.bel.trans (hc.below a.bel.size (fun k hk e => by have := hS _ e; omega))⟩
end Go.Proofs.YtnnegldaekmgbaaGreatDoor
