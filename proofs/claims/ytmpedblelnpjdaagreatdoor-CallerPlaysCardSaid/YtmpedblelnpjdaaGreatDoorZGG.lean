/- GG: CdC CdV -/
import Derived.Test.YtmpedblelnpjdaaGreatDoorZGF
import Derived.Test.YtmpedblelnpjdaaGreatDoorZGE
/- The closures that put and get a letter's numbers (printed by cdgen2.py). -/
namespace Go.Proofs.YtmpedblelnpjdaaGreatDoor
open Go.RowKit
set_option linter.unusedSimpArgs false
set_option linter.unusedVariables false
set_option maxHeartbeats 8000000
set_option maxRecDepth 100000
def PutP (g : Nat) (v : Value) (bs pb : List Int) (W : World) (e : Ending) (W' : World) : Prop :=
 e = .returned (.tuple #[]) ∧ ∃ v', OutAt W' g v' ⟨bs ++ pb, 16384, 0⟩ ∧ OutStep W W' g v v'
theorem OutStep.typ {W W' : World} {g b : Nat} {v v' : Value} {s : FO} {t : TypeId} {cs : Array Value} (h : OutStep W W' g v v') (ho : OutAt W g v s) (hb : Blk W b t cs) (h1 : t ≠ 242) (h2 : t ≠ 5) : Blk W' b t cs := by
 refine (h.2.block b hb.lt (fun e => ?_)).trans hb
 rcases e with e | e
 ·subst e
  exact Blk.ne_ hb ho.1 h1 rfl
 ·rcases ho.2.1.2 with hn | ⟨k, cap, cur, hv, _, hh, _⟩
  ·rw [hn.1] at e; cases e
  ·rw [hv] at e
   simp only [Value.ownBlock] at e
   injection e with e
   subst e
   have hblk := hb
   unfold Blk at hblk
   rw [hh] at hblk
   injection hblk with hblk
   injection hblk with _ ht _
   exact h2 ht.symm
theorem OutAt.drew {W : World} {g : Nat} {v : Value} {s : FO} (h : OutAt W g v s) : OutAt W.drew g v s := h.below ((Below.refl _ _).drew)
theorem InAt.drew {W : World} {gi B : Nat} {s : FI} (h : InAt W gi B s) : InAt W.drew gi B s := h.below ((Below.refl _ _).drew)
theorem PutP.pre {g : Nat} {v : Value} {bs pb : List Int} {W W0 W' : World} {e : Ending} (hb : Below W.heap.size W W0) (h : PutP g v bs pb W0 e W') : PutP g v bs pb W e W' := by
 obtain ⟨he, v', h1, h2⟩ := h
 exact ⟨he, v', h1, OutStep.pre hb h2⟩
theorem Boxes.chg {W W' : World} {l : List (Nat × TypeId × Value)} {gi gl : Nat} {cs ds : Array Value} (h : Boxes W l) (hi : Blk W gi 223 cs) (hl : Blk W gl 37 ds) (hc : Chg W W' (fun k => k = gi ∨ k = gl)) : Boxes W' l := fun b hb => by
 refine ⟨hc.blk (h b hb).1 (fun e => ?_), (h b hb).2⟩
 rcases e with e | e
 ·exact Blk.ne_ (h b hb).1 hi (boxT_ne (h b hb).2 (by decide) (by decide) (by decide)) e
 ·exact Blk.ne_ (h b hb).1 hl (boxT_ne (h b hb).2 (by decide) (by decide) (by decide)) e
theorem Boxes.put {W W' : World} {l : List (Nat × TypeId × Value)} {g : Nat} {v v' : Value} {s : FO} (h : Boxes W l) (ho : OutAt W g v s) (hs : OutStep W W' g v v') : Boxes W' l := fun b hb =>
 ⟨hs.typ ho (h b hb).1 (boxT_ne (h b hb).2 (by decide) (by decide) (by decide)) (boxT_ne (h b hb).2 (by decide) (by decide) (by decide)), (h b hb).2⟩
theorem InAt.far {W : World} {gi gl B : Nat} {s : FI} (h : InAt W gi B s) (hB : B ≤ gl) (o : Nat) (v : Value) : InAt (W.setCell ⟨gl, o, none⟩ v) gi B s :=
 h.below ((Below.refl _ _).setCell hB _)
theorem SmallAt.put {W W' : World} {k : Int} {f q : Fn} {p : Pm} {g : Nat} {v v' : Value} {s : FO} (h : SmallAt W k f q p) (ho : OutAt W g v s) (hs : OutStep W W' g v v') : SmallAt W' k f q p := by obtain ⟨g1, g2, e, hx⟩ := h; exact ⟨g1, g2, e, hx.put ho hs⟩
theorem WordAt.put {W W' : World} {f q : Fn} {p : Pm} {g : Nat} {v v' : Value} {s : FO} (h : WordAt W f q p) (ho : OutAt W g v s) (hs : OutStep W W' g v v') : WordAt W' f q p := by obtain ⟨g, e, hx⟩ := h; exact ⟨g, e, hx.put ho hs⟩
theorem SmallAt.chg {W W' : World} {k : Int} {f q : Fn} {p : Pm} {gi gl : Nat} {cs ds : Array Value} (h : SmallAt W k f q p) (hi : Blk W gi 223 cs) (hl : Blk W gl 37 ds) (hc : Chg W W' (fun k => k = gi ∨ k = gl)) : SmallAt W' k f q p := by obtain ⟨g1, g2, e, hx⟩ := h; exact ⟨g1, g2, e, hx.chg hi hl hc⟩
theorem WordAt.chg {W W' : World} {f q : Fn} {p : Pm} {gi gl : Nat} {cs ds : Array Value} (h : WordAt W f q p) (hi : Blk W gi 223 cs) (hl : Blk W gl 37 ds) (hc : Chg W W' (fun k => k = gi ∨ k = gl)) : WordAt W' f q p := by obtain ⟨g, e, hx⟩ := h; exact ⟨g, e, hx.chg hi hl hc⟩
theorem PartM.put {W W' : World} {p : Pm} {g : Nat} {v v' : Value} {s : FO} (ho : OutAt W g v s) (hs : OutStep W W' g v v') : ∀ (i : Nat), PartM W i p → PartM W' i p
 | 0, h => SmallAt.put h ho hs
 | 1, h => WordAt.put h ho hs
 | 2, h => WordAt.put h ho hs
 | 3, h => WordAt.put h ho hs
 | 4, h => WordAt.put h ho hs
 | 5, h => SmallAt.put h ho hs
 | 6, h => WordAt.put h ho hs
 | 7, h => h
 | 8, h => h
 | 9, h => WordAt.put h ho hs
 | 10, h => h
 | 11, h => h
 | 12, h => h
 | 13, h => h
 | 14, h => h
 | _ + 15, h => h
theorem PartM.chg {W W' : World} {p : Pm} {gi gl : Nat} {cs ds : Array Value} (hi : Blk W gi 223 cs) (hl : Blk W gl 37 ds) (hc : Chg W W' (fun k => k = gi ∨ k = gl)) : ∀ (i : Nat), PartM W i p → PartM W' i p
 | 0, h => SmallAt.chg h hi hl hc
 | 1, h => WordAt.chg h hi hl hc
 | 2, h => WordAt.chg h hi hl hc
 | 3, h => WordAt.chg h hi hl hc
 | 4, h => WordAt.chg h hi hl hc
 | 5, h => SmallAt.chg h hi hl hc
 | 6, h => WordAt.chg h hi hl hc
 | 7, h => h
 | 8, h => h
 | 9, h => WordAt.chg h hi hl hc
 | 10, h => h
 | 11, h => h
 | 12, h => h
 | 13, h => h
 | 14, h => h
 | _ + 15, h => h
end Go.Proofs.YtmpedblelnpjdaaGreatDoor
/- Letters with their lists: as data, in memory, as values. -/
namespace Go.Proofs.YtmpedblelnpjdaaGreatDoor
open Go.RowKit
set_option linter.unusedSimpArgs false
set_option linter.unusedVariables false
set_option maxHeartbeats 2000000
set_option maxRecDepth 100000
structure Vt where
 sl : Int
 bl : Int
 qk : Int
 qc : Int
 qe : Int
 qn : Int
def Vt.row (v : Vt) : List Value := [.int .i64 v.sl, .int .u64 v.bl, .int .i64 v.qk, .int .i64 v.qc, .int .u64 v.qe, .int .i64 v.qn]
def Vt.agg (v : Vt) : Value := .agg #[.int .i64 v.sl, .int .u64 v.bl, .int .i64 v.qk, .int .i64 v.qc, .int .u64 v.qe, .int .i64 v.qn]
def Vt.cells (v : Vt) : Array Value := #[.int .i64 v.sl, .int .u64 v.bl, .int .i64 v.qk, .int .i64 v.qc, .int .u64 v.qe, .int .i64 v.qn]
instance : DecidableEq Vt := fun a b => decidable_of_iff (a.sl = b.sl ∧ a.bl = b.bl ∧ a.qk = b.qk ∧ a.qc = b.qc ∧ a.qe = b.qe ∧ a.qn = b.qn) ⟨fun h => by cases a; cases b; simp_all, fun h => by subst h; simp⟩
theorem Vt.row_len (v : Vt) : v.row.length = 6 := rfl
structure Vt.wf (v : Vt) : Prop where
 sl : -9223372036854775808 ≤ v.sl ∧ v.sl ≤ 9223372036854775807
 bl : 0 ≤ v.bl ∧ v.bl ≤ 18446744073709551615
 qk : -9223372036854775808 ≤ v.qk ∧ v.qk ≤ 9223372036854775807
 qc : -9223372036854775808 ≤ v.qc ∧ v.qc ≤ 9223372036854775807
 qe : 0 ≤ v.qe ∧ v.qe ≤ 18446744073709551615
 qn : -9223372036854775808 ≤ v.qn ∧ v.qn ≤ 9223372036854775807
structure LV where
 l : Lt
 ns : List Int
 vs : List Vt
 us : List Up
 ds : List Int
structure LVal where
 kd : Int
 fr : Int
 tw : Int
 ch : Int
 ep : Int
 bl : Int
 nu : Int
 sq : Int
 dz : Int
 vr : Int
 sl : Int
 ky : Int
 cd : Int
 qk : Int
 qc : Int
 qe : Int
 qn : Int
 fc : Int
 fe : Int
 ff : Bool
 fj : Int
 ns : List Int
 vs : List Vt
 us : List (Int × Int × Int × Int × Int × Int × List Int)
 ds : List Int
noncomputable instance : DecidableEq LVal := fun a b => Classical.propDecidable _
def LV.val (x : LV) : LVal := ⟨x.l.kd, x.l.fr, x.l.tw, x.l.ch, x.l.ep, x.l.bl, x.l.nu, x.l.sq, x.l.dz, x.l.vr, x.l.sl, x.l.ky, x.l.cd, x.l.qk, x.l.qc, x.l.qe, x.l.qn, x.l.fc, x.l.fe, x.l.ff, x.l.fj, x.ns, x.vs, x.us.map Up.val, x.ds⟩
structure LWf (l : Lt) : Prop where
 kd : -9223372036854775808 ≤ l.kd ∧ l.kd ≤ 9223372036854775807
 fr : -9223372036854775808 ≤ l.fr ∧ l.fr ≤ 9223372036854775807
 tw : -9223372036854775808 ≤ l.tw ∧ l.tw ≤ 9223372036854775807
 ch : -9223372036854775808 ≤ l.ch ∧ l.ch ≤ 9223372036854775807
 ep : 0 ≤ l.ep ∧ l.ep ≤ 18446744073709551615
 bl : 0 ≤ l.bl ∧ l.bl ≤ 18446744073709551615
 nu : 0 ≤ l.nu ∧ l.nu ≤ 18446744073709551615
 sq : 0 ≤ l.sq ∧ l.sq ≤ 18446744073709551615
 dz : 0 ≤ l.dz ∧ l.dz ≤ 18446744073709551615
 vr : 0 ≤ l.vr ∧ l.vr ≤ 18446744073709551615
 sl : -9223372036854775808 ≤ l.sl ∧ l.sl ≤ 9223372036854775807
 ky : 0 ≤ l.ky ∧ l.ky ≤ 4294967295
 cd : -9223372036854775808 ≤ l.cd ∧ l.cd ≤ 9223372036854775807
 qk : -9223372036854775808 ≤ l.qk ∧ l.qk ≤ 9223372036854775807
 qc : -9223372036854775808 ≤ l.qc ∧ l.qc ≤ 9223372036854775807
 qe : 0 ≤ l.qe ∧ l.qe ≤ 18446744073709551615
 qn : -9223372036854775808 ≤ l.qn ∧ l.qn ≤ 9223372036854775807
 fc : -9223372036854775808 ≤ l.fc ∧ l.fc ≤ 9223372036854775807
 fe : 0 ≤ l.fe ∧ l.fe ≤ 18446744073709551615
 fj : -9223372036854775808 ≤ l.fj ∧ l.fj ≤ 9223372036854775807
structure LIn (w : World) (B : Nat) (x : LV) : Prop where
 nd : Reads w B 1 x.l.fA x.l.fn (x.ns.map (Value.int .i64))
 vt : Reads w B 6 x.l.vA x.l.vn (x.vs.flatMap Vt.row)
 up : UpsIn w B x.l.uA x.l.un x.us
 da : Reads w B 1 x.l.dA x.l.dn (x.ds.map (Value.int .u8))
 by_ : bytesB x.ds
 wf : LWf x.l
 vw : ∀ v ∈ x.vs, v.wf
 nw : ∀ z ∈ x.ns, -9223372036854775808 ≤ z ∧ z ≤ 9223372036854775807
 cf : x.l.fn ≤ x.l.fp ∧ x.l.fp ≤ maxLen
 cv : x.l.vn ≤ x.l.vp ∧ x.l.vp ≤ maxLen
 cu : x.l.un ≤ x.l.up ∧ x.l.up ≤ maxLen
 cd : x.l.dn ≤ x.l.dp ∧ x.l.dp ≤ maxLen
theorem LIn.below {w w' : World} {B : Nat} {x : LV} (h : LIn w B x) (hb : Below B w w') : LIn w' B x :=
 ⟨h.nd.below hb, h.vt.below hb, h.up.below hb, h.da.below hb, h.by_, h.wf, h.vw, h.nw, h.cf, h.cv, h.cu, h.cd⟩
theorem LIn.more {w : World} {B B' : Nat} {x : LV} (h : LIn w B x) (hb : B ≤ B') : LIn w B' x :=
 ⟨h.nd.more hb, h.vt.more hb, h.up.more hb, h.da.more hb, h.by_, h.wf, h.vw, h.nw, h.cf, h.cv, h.cu, h.cd⟩
theorem LIn.nl {w : World} {B : Nat} {x : LV} (h : LIn w B x) : x.ns.length = x.l.fn := by have := h.nd.1; simpa using this
theorem LIn.dl {w : World} {B : Nat} {x : LV} (h : LIn w B x) : x.ds.length = x.l.dn := by have := h.da.1; simpa using this
theorem LIn.vl {w : World} {B : Nat} {x : LV} (h : LIn w B x) : x.vs.length = x.l.vn := flat_len Vt.row Vt.row_len (by omega) h.vt
theorem LIn.ul {w : World} {B : Nat} {x : LV} (h : LIn w B x) : x.us.length = x.l.un := h.up.len
structure LV.near (x : LV) : Prop where
 us : ∀ u ∈ x.us, u.n ≤ 1000000
 ul : x.l.un ≤ 1000000
 vl : x.l.vn ≤ 1000000
 dl : x.l.dn ≤ 1000000
 nl : x.l.fn ≤ 1000000
instance upvDec : DecidableEq (Int × Int × Int × Int × Int × Int × List Int) := fun a b => inferInstance
instance upvsDec : DecidableEq (List (Int × Int × Int × Int × Int × Int × List Int)) := fun a b => @instDecidableEqList _ upvDec a b
def Up7 (w : World) (b o : Nat) (u : Up) : Prop := w.cell? ⟨b, o, none⟩ = some (.int .u64 u.seq) ∧ w.cell? ⟨b, o + 1, none⟩ = some (.int .i64 u.cl) ∧ w.cell? ⟨b, o + 2, none⟩ = some (.int .u64 u.num) ∧ w.cell? ⟨b, o + 3, none⟩ = some (.int .i64 u.kd) ∧ w.cell? ⟨b, o + 4, none⟩ = some (.int .u32 u.key) ∧ w.cell? ⟨b, o + 5, none⟩ = some (.int .u64 u.ver) ∧ w.cell? ⟨b, o + 6, none⟩ = some (.slice u.A u.n u.c)
theorem up7_below {w w' : World} {b o : Nat} {u : Up} (hb : b < w.heap.size) (h2 : Below w.heap.size w w') (c : Up7 w b o u) : Up7 w' b o u := by
 obtain ⟨c0, c1, c2, c3, c4, c5, c6⟩ := c
 exact ⟨(h2.cell hb).trans c0, (h2.cell hb).trans c1, (h2.cell hb).trans c2, (h2.cell hb).trans c3, (h2.cell hb).trans c4, (h2.cell hb).trans c5, (h2.cell hb).trans c6⟩
theorem natB_inj {x y : List Int} (hx : bytesB x) (hy : bytesB y) (h : x.map Int.toNat = y.map Int.toNat) : x = y := by
 induction x generalizing y with
 | nil => cases y with
  | nil => rfl
  | cons b y => cases h
 | cons a x ih => cases y with
  | nil => cases h
  | cons b y =>
   simp only [List.map_cons, List.cons.injEq] at h
   have h1 := hx a (by simp)
   have h2 := hy b (by simp)
   rw [ih (fun z hz => hx z (List.mem_cons_of_mem _ hz)) (fun z hz => hy z (List.mem_cons_of_mem _ hz)) h.2, show a = b by omega]
theorem bI_toNat (l : List Int) (h : bytesB l) : bI (l.map Int.toNat) = l := by
 unfold bI
 rw [List.map_map]
 conv => rhs; rw [← List.map_id l]
 refine List.map_congr_left (fun z hz => ?_)
 have := h z hz
 simp only [Function.comp_apply, id_eq]
 omega
theorem toNat_bs (l : List Int) (h : bytesB l) : isBs (l.map Int.toNat) := by
 intro b hb
 obtain ⟨z, hz, rfl⟩ := List.mem_map.1 hb
 have := h z hz
 omega
theorem bytesEqI_any (A C : Option Addr) (n m c d B D : Nat) (x y : List Int) (w : World) (hx : Reads w B 1 A n (x.map (Value.int .u8))) (hy : Reads w D 1 C m (y.map (Value.int .u8))) (bx : bytesB x) (by' : bytesB y) :
  Calls Tryz.prog 206 #[.slice A n c, .slice C m d] w fun e w' => e = .returned (.bool (decide (x = y))) ∧ w = w' := by
 have h := bytesEqual_any A C n m c d B D (x.map Int.toNat) (y.map Int.toNat) w (by rw [bI_toNat x bx]; exact hx) (by rw [bI_toNat y by']; exact hy) (toNat_bs x bx) (toNat_bs y by')
 have e : decide (x.map Int.toNat = y.map Int.toNat) = decide (x = y) := decide_eq_decide.2 ⟨natB_inj bx by', fun h => by rw [h]⟩
 rw [e] at h
 exact h
end Go.Proofs.YtmpedblelnpjdaaGreatDoor
