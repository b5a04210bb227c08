/- The awake of chapter 10. -/
import Derived.Test.YtmpedblelnpjdaaGreatDoorZGK
import Derived.Test.YtmpedblelnpjdaaGreatDoorZGJ
namespace Go.Proofs.YtmpedblelnpjdaaGreatDoor
open Go.RowKit
set_option linter.unusedSimpArgs false
set_option linter.unusedVariables false
set_option maxHeartbeats 8000000
set_option maxRecDepth 100000
theorem parts10 : partsI 10 = [0] := by decide +kernel
def v10 : LVal := { LVal.zero with kd := 10, fr := 3, tw := 101, ch := 2 }
theorem chFine_any (l : Lt) (h : 0 ≤ l.ch ∧ l.ch < 4) (w : World) : Calls Tryz.prog 184 #[.agg l.cells] w fun e w' => e = .returned (.bool true) ∧ Below w.heap.size w w' := by
 obtain ⟨W0, hW0⟩ : ∃ W0, W0 = w.alloc (.cells l.cells 37) := ⟨_, rfl⟩
 have hb0 : Below w.heap.size w W0 := by rw [hW0]; exact (Below.refl _ _).alloc (Nat.le_refl _) _
 have hbk : Blk W0 w.heap.size 37 l.cells := by rw [hW0]; exact Blk.new _ _ _
 have x3 := (hbk.cell 3).trans (show _ = some (.int .i64 l.ch) from rfl)
 have hl := hbk.lt
 have h1 : 0 ≤ l.ch := h.1
 have h2 : l.ch < 4 := h.2
 have HB := Lib.hid hb0
 have HW := Lib.hid hW0
 clear hb0 hW0 hbk h
 go_enter Tryz.func184, Tryz.ntmps184
 go_upto_region 1 with (fail)
 have e0 := HW.out
 simp only [Lt.cells] at e0
 first | rw [← e0] | rw [← HW.out]
 clear e0
 go_wp2_with (fail)
 go_ret
 exact ⟨rfl, HB.out⟩
theorem fine0C (x : LV) (h : 0 ≤ x.l.ch ∧ x.l.ch < 4) (B : Nat) (Good : World → Prop) : FineC B Good (.agg x.l.cells) 0 true := by
 intro p W0 hp
 obtain ⟨g0, g9, rfl, _⟩ := hp
 exact ⟨184, rfl, enters_of Tryz.func184 (by kernel_rfl) rfl, fun W _ _ => chFine_any x.l h W⟩
theorem mask10 (x : LV) (hv : x.val = v10) : (x.mask (partF 10 15)).val = x.val := by
 have hv' := hv
 simp only [LV.val, v10, LVal.zero, LVal.mk.injEq] at hv'
 obtain ⟨e0, e1, e2, e3, e4, e5, e6, e7, e8, e9, e10, e11, e12, e13, e14, e15, e16, e17, e18, e19, e20, e21, e22, e23, e24⟩ := hv'
 have f0 : partF 10 15 0 = true := by decide +kernel
 have e23' : x.us = [] := List.map_eq_nil_iff.1 e23
 simp only [LV.val, LV.mask, Lt.mask, LVal.mk.injEq]
 simp [e0, e1, e2, e3, e4, e5, e6, e7, e8, e9, e10, e11, e12, e13, e14, e15, e16, e17, e18, e19, e20, e21, e22, e23', e24, f0]
theorem v10_near : v10.near := ⟨⟨by decide, fun u hu => (by cases hu)⟩, by decide, by decide, by decide⟩
theorem check10_any (x : LV) (hv : x.val = v10) (B : Nat) (W : World) (hK : KindsAt W) (h : LIn W B x) (hB : B ≤ W.heap.size) :
  Calls Tryz.prog 49 #[x.l.agg] W fun e W' => e = .returned (.int .i64 0) ∧ Below W.heap.size W W' := by
 have e0 : x.l.kd = 10 := congrArg LVal.kd hv
 have e1 : x.l.fr = 3 := congrArg LVal.fr hv
 have e2 : x.l.tw = 101 := congrArg LVal.tw hv
 have e3 : x.l.ch = 2 := congrArg LVal.ch hv
 have hs : sameB x (x.mask (partF 10 15)) = true := decide_eq_true (mask10 x hv).symm
 have hnear : x.near := near_of h (by rw [hv]; exact v10_near)
 have := checkT_of x.l 10 (by omega) (by omega) e0 W hK true (fun W => by have h5 := address_any x.l.fr W; rwa [e1] at h5 ⊢) (fun W => by have h5 := address_any x.l.tw W; rwa [e2] at h5 ⊢)
  (fun W' hb => by
   have h5 := letSameG_any x (x.mask (partF 10 15)) B B W' (h.below (hb.mono hB)) ((h.mask _).below (hb.mono hB)) (Nat.le_trans hB hb.size) (Nat.le_trans hB hb.size) hnear
   rw [hs] at h5
   exact h5)
  (fun _ => True) (fun _ _ => trivial) (fun _ => true) (fun i hi => by
   rw [parts10] at hi
   simp only [List.mem_cons, List.not_mem_nil, or_false] at hi
   subst hi
   exact fine0C x (by omega) _ _) (by rw [parts10]; decide)
 rw [parts10] at this
 exact this
def x10 : LV := ⟨{ Lt.zero with kd := 10, fr := 3, tw := 101, ch := 2 }, [], [], [], []⟩
theorem x10_in (w : World) (B : Nat) : LIn w B x10 :=
 ⟨Reads.none_, Reads.none_, UpsIn.nil _ _, Reads.none_, bytesB_nil, by constructor <;> simp [x10, Lt.zero], fun v hv => (by cases hv), fun v hv => (by cases hv), ⟨Nat.le_refl _, Nat.zero_le _⟩, ⟨Nat.le_refl _, Nat.zero_le _⟩, ⟨Nat.le_refl _, Nat.zero_le _⟩, ⟨Nat.le_refl _, Nat.zero_le _⟩⟩
def b10 : List Nat := encB 10 (bodyB x10.l (partsI 10) (numPB v10))
theorem b10_get : getE b10 = 0 ∧ getK b10 = 10 ∧ getB b10 = [0, 3, 0, 101, 2] ∧ b10.length = 12 := by decide +kernel
theorem b10_bs : isBs b10 := (by decide +kernel : ∀ b ∈ b10, b < 256)
theorem d1_10 : dec1 b10 = (⟨[0, 101, 2], 0⟩, 3) := by unfold dec1; rw [b10_get.2.2.1]; rfl
theorem d2_10 : dec2 b10 = (⟨[2], 0⟩, 101) := by unfold dec2; rw [d1_10]; rfl
theorem dv_10 : decV b10 = { LVal.zero with kd := 10, fr := 3, tw := 101 } := by unfold decV; rw [b10_get.2.1, d1_10, d2_10]; rfl
theorem ds_10 (oth : Nat → FI → LVal → FI × LVal) : decS (stG oth) b10 = (⟨[], 0⟩, v10) := by unfold decS; rw [b10_get.2.1, d2_10, dv_10, parts10]; rfl
theorem de_10 (oth : Nat → FI → LVal → FI × LVal) : decE (fun _ => 0) (stG oth) b10 = 0 := by
 unfold decE
 rw [b10_get.1, b10_get.2.1, ds_10]
 rfl
theorem a_hdr (w : World) : (Instr.build 37 #[(0, .int .i64 10), (1, .int .i64 3), (2, .int .i64 101), (3, .int .i64 2)]).run Tryz.prog w = .ok (.agg x10.l.cells) w := by kernel_rfl
theorem kn_chg {w W : World} {S : Nat → Prop} (h : KNAt w) (hc : Chg w W S) (hS : ¬ S 0) : KNAt W :=
 ⟨⟨fun k j hk hj => (hc.cell (p := ⟨0, k * 7 + 1 + j, none⟩) h.k.lt hS).trans (h.k.cell k j hk hj)⟩, (hc.cell (p := ⟨0, 70, none⟩) h.k.lt hS).trans h.n⟩
theorem name_any (w : World) (h : KNAt w) : Calls Tryz.prog 41 #[.int .i64 10] w fun e w' => e = .returned (.string ⟨#[108, 111, 99, 97, 116, 101]⟩) ∧ w = w' := by
 have n := h.n
 have hl := h.k.lt
 have K := Lib.hid (known_yes 10 w (by omega) (by omega))
 clear h
 go_enter Tryz.func41, Tryz.ntmps41
 go_wp2_with (fail)
 refine K.out.mono ?_
 rintro e w1 ⟨rfl, rfl⟩
 go_wp2_with (fail)
 go_ret
 exact ⟨rfl, rfl⟩
def oth0 : Nat → FI → LVal → FI × LVal := fun _ s v => (s, v)
theorem awake10_any : AwakeP := by
 intro w hK
 have HK := Lib.hid hK
 have hw0 := hK.k.lt
 have ha := a_hdr
 clear hK
 go_enter Tryz.func7, Tryz.ntmps7
 go_wp2_with (fail)
 refine (frNew_nil _).mono ?_
 rintro e w1 ⟨c, rfl, hcw, hcd, hb1⟩
 obtain ⟨g, hg⟩ : ∃ g, g = w.heap.size := ⟨_, rfl⟩
 rw [← hg] at hcd
 have HK1 := Lib.hid (HK.out.below hb1)
 have HB1 := Lib.hid hb1
 have hcl := hcd.1.lt
 have hgl := hcd.2.lt
 have EN := Lib.hid (encode_of x10.l 10 (by omega) (by omega) rfl (by decide) (by decide) (fun _ => True) (numPB v10) w1 (fun W h => (HK1.out.below h).k) (fun _ _ => trivial) c g false 0 0 hcd
  (fun W h => check10_any x10 rfl W.heap.size W (HK1.out.below h).k (x10_in _ _) (Nat.le_refl _))
  (fun i hi => by
   rw [parts10] at hi
   simp only [List.mem_cons, List.not_mem_nil, or_false] at hi
   subst hi
   exact putC0 x10 (by decide) _ _) (by rw [parts10]; decide) (by rw [parts10]; intro z hz; simp [numPB, v10, big, digit] at hz; omega) (by rw [parts10]; decide))
 rw [show encB 10 (bodyB x10.l (partsI 10) (numPB v10)) = b10 from rfl, b10_get.2.2.2] at EN
 have HG := Lib.hid hg
 clear hcd hb1 hg
 go_wp2_with (fail)
 refine EN.out.mono ?_
 rintro e w2 ⟨v, rfl, ho, ⟨d', hcd2⟩, hch⟩
 obtain ⟨A2, c2, rfl, r2, f2, l2, m2⟩ := own_far (g := g) ho hgl
 have HK2 := Lib.hid (kn_chg HK1.out hch (by have := HG.out; omega))
 have DE := Lib.hid (decode_of (fun _ => 0) (stG oth0) c g d' 0 0 A2 12 c2 w2.heap.size b10 w2 hcd2 r2 b10_bs (Nat.le_refl _) f2 (by omega) l2 (by have := m2; unfold maxLen at this; omega) (by omega) (by omega)
  (fun W h => (kn_chg HK2.out h (by have := HG.out; omega)).k)
  (fun x W hkw hin hv => by rw [ds_10] at hv; exact check10_any x hv W.heap.size W hkw hin (Nat.le_refl _))
  (fun i s v => stG_short oth0 (fun _ _ _ => Nat.le_refl _) i s v)
  (fun j k s v hk _ _ => by
   rw [b10_get.2.1, parts10] at hk
   have hk0 : k = 0 := List.mem_singleton.1 (List.mem_of_getElem? hk)
   exact ⟨fun e => by omega, fun e => by omega⟩)
  (fun i hi => by
   rw [b10_get.2.1, parts10] at hi
   simp only [List.mem_cons, List.not_mem_nil, or_false] at hi
   subst hi
   exact getC0 oth0) (by rw [b10_get.2.1, parts10]; decide))
 rw [de_10, ds_10] at DE
 have HB2 := Lib.hid (HB1.out.trans (hch.below HB1.out.size (fun k hk e => by have := HG.out; omega)))
 clear ho hcd2 r2 f2 hch EN
 go_wp2_with (fail)
 refine DE.out.mono ?_
 rintro e w3 ⟨x, rfl, hxv, hxo, hcd3, hch3⟩
 rw [if_pos rfl] at hxv
 have HK3 := Lib.hid (kn_chg HK2.out hch3 (by have := HG.out; omega))
 have HB3 := Lib.hid (HB2.out.trans (hch3.below HB2.out.size (fun k hk e => by have := HG.out; omega)))
 have x3 : x.l.ch = 2 := congrArg LVal.ch hxv
 have x2 : x.l.tw = 101 := congrArg LVal.tw hxv
 clear hxo hcd3 hch3 hxv DE
 dsimp only
 rename_i hK9
 refine hK9 _ _ ?_
 clear hK9
 iterate 12 go_step
 refine wpList_store_fresh rfl 37 (.tmp 4) (.tmp 17) rfl x.l.cells 37 Lt.zero.cells rfl rfl ltInfo rfl (lt_all _) ?_
 obtain ⟨W4, hW4⟩ : ∃ W4, W4 = w3.alloc (.cells x.l.cells 37) := ⟨_, rfl⟩
 rw [← hW4]
 have hb4 : Below w3.heap.size w3 W4 := by rw [hW4]; exact (Below.refl _ _).alloc (Nat.le_refl _) _
 have hbk : Blk W4 w3.heap.size 37 x.l.cells := by rw [hW4]; exact Blk.new _ _ _
 have c2' := (hbk.cell 2).trans (show _ = some (.int .i64 x.l.tw) from rfl)
 have c3' := (hbk.cell 3).trans (show _ = some (.int .i64 x.l.ch) from rfl)
 rw [x2] at c2'
 rw [x3] at c3'
 have hl4 := hbk.lt
 have HK4 := Lib.hid (HK3.out.below hb4)
 have HB4 := Lib.hid (HB3.out.trans (hb4.mono HB3.out.size))
 clear hW4 hb4 hbk x2 x3
 go_wp2_with (fail)
 refine (name_any _ HK4.out).mono ?_
 rintro e w5 ⟨rfl, rfl⟩
 go_wp2_with (fail)
 go_ret
 exact ⟨rfl, HB4.out⟩
end Go.Proofs.YtmpedblelnpjdaaGreatDoor
