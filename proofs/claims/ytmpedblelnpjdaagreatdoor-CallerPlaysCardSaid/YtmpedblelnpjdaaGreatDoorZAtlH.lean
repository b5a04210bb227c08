import Derived.Test.YtmpedblelnpjdaaGreatDoorZAtlC
section
/- An atlas: New. -/
namespace Go.Proofs.YtmpedblelnpjdaaGreatDoor
open Go.RowKit
set_option linter.unusedSimpArgs false
set_option linter.unusedVariables false
set_option maxHeartbeats 8000000
set_option maxRecDepth 100000
def LzL (w : World) (g : Nat) (mk : Value) : Prop := Blk w g 312 #[.int .u32 0, .int .i32 0, .int .u32 0, mk, .int .i32 0, .slice none 0 0]
theorem ofL_any (fid : Nat) (caps : Array Value) (w : World) : Calls Tryz.prog 148 #[.func (.func fid) #[] caps] w fun e w' => e = .returned (.pointer (some ⟨w.heap.size, 0, none⟩)) ∧ w' = w.alloc (.cells #[.int .u32 0, .int .i32 0, .int .u32 0, .func (.func fid) #[] caps, .int .i32 0, .slice none 0 0] 312) := by
 go_enter Tryz.func148, Tryz.ntmps148
 go_wp2
 go_ret
 exact ⟨rfl, rfl⟩
def tabMk (cB : Nat) : Value := .func (.func 145) #[] #[.pointer (some ⟨cB, 0, none⟩)]
structure AtX (w : World) (b0 G q h cB : Nat) (o : List Cf) : Prop where
 blk : Blk w G 258 #[.slice (some ⟨q, 0, none⟩) o.length o.length, .pointer (some ⟨h, 0, none⟩)]
 conf : Blk w q 33 ⟨o.flatMap Cf.row⟩
 own : ∀ x ∈ o, CfOwn w (q + 1) x
 keys : LzL w h (tabMk cB)
 num : Blk w cB 3 #[.int .i64 o.length]
 few : (1 ≤ o.length ∧ o.length ≤ 4) ∧ ∀ x ∈ o, x.len ≤ 1000000
 b0 : b0 ≤ cB
 lt : cB < q ∧ q < h ∧ h < G
def At (w : World) (b0 G : Nat) (vs : List (Int × Int × List Int × Bool × Int)) : Prop := ∃ q h cB o, AtX w b0 G q h cB o ∧ o.map Cf.val = vs
theorem AtX.below {w w' : World} {b0 G q h cB : Nat} {o : List Cf} (a : AtX w b0 G q h cB o) (hb : Below w.heap.size w w') : AtX w' b0 G q h cB o :=
 ⟨a.blk.below hb a.blk.lt, a.conf.below hb a.conf.lt, fun x hx => (a.own x hx).later hb (Nat.le_refl _), Blk.below a.keys hb (Blk.lt a.keys), a.num.below hb a.num.lt, a.few, a.b0, a.lt⟩
theorem At.below {w w' : World} {b0 G : Nat} {vs : List (Int × Int × List Int × Bool × Int)} (a : At w b0 G vs) (hb : Below w.heap.size w w') : At w' b0 G vs := by
 obtain ⟨q, h, cB, o, ha, hv⟩ := a
 exact ⟨q, h, cB, o, ha.below hb, hv⟩
theorem few_of {o l : List Cf} {n : Nat} (h : o.map Cf.val = (l.take n).map Cf.val) (ho : ∀ x ∈ o, x.zs.length = x.len) (hl : ∀ x ∈ l, x.zs.length = x.len) (hx : ∀ x ∈ l, x.len ≤ 1000000) : ∀ x ∈ o, x.len ≤ 1000000 := by
 intro x hm
 have h1 : x.val ∈ (l.take n).map Cf.val := by rw [← h]; exact List.mem_map_of_mem hm
 obtain ⟨y, hy, he⟩ := List.mem_map.1 h1
 have hy' := List.mem_of_mem_take hy
 have hz : y.zs = x.zs := by have := congrArg (fun v => v.2.2.1) he; exact this
 rw [← ho x hm, ← hz, hl y hy']
 exact hx y hy'
theorem atlNew_any (A : Option Addr) (n c B : Nat) (l : List Cf) (w : World) (hl : CfsIn w B A n l) (hB : B ≤ w.heap.size) :
  Calls Tryz.prog 68 #[.slice A n c] w fun e w' => Below w.heap.size w w' ∧ ((allB l = false ∧ e = .returned (.tuple #[.pointer none, .int .i64 1])) ∨ (allB l = true ∧ ∃ G, e = .returned (.tuple #[.pointer (some ⟨G, 0, none⟩), .int .i64 0]) ∧ At w' w.heap.size G (l.map Cf.val))) := by
 have hmf : ∀ (fn : Fn) (first cap : Array Value) (w : World), (Instr.makeFunc fn first cap).run Tryz.prog w = .ok (.func fn first cap) w := fun _ _ _ _ => rfl
 have hlen := hl.len
 have HL := Lib.hid hl
 have HN : Hid (l.length = n) := Lib.hid hlen
 clear hl hlen
 cases hA : allB l
 ·go_enter Tryz.func68, Tryz.ntmps68
  go_wp2_with (fail)
  refine (all_any A n c B l _ HL.out hB).mono ?_
  rintro e w1 ⟨rfl, h⟩
  have H1 := Lib.hid h
  clear h
  go_wp2
  go_ret2
  exact ⟨H1.out, .inl ⟨by trivial, rfl⟩⟩
 ·have hall := allB_iff.1 hA
  have hn4 : n ≤ 4 := by rw [← HN.out]; exact hall.1.2
  have hx : ∀ x ∈ l, x.len ≤ 1000000 := by
   intro x hx
   obtain ⟨j, hj, he⟩ := List.getElem_of_mem hx
   have := (Cf.right_fine (hall.2.1 j x hj (by rw [List.getElem?_eq_getElem hj, he])).2).1.2.2.1.2
   omega
  have HX := Lib.hid hx
  clear hx
  replace hall := Lib.hid hall
  go_enter Tryz.func68, Tryz.ntmps68
  go_wp2_with (fail)
  refine (all_any A n c B l _ HL.out hB).mono ?_
  rintro e w1 ⟨rfl, h⟩
  have H1 := Lib.hid h
  have hs1 := h.size
  clear h
  go_wp2_with (fail)
  refine (copy_any A n c B l _ ((HL.out.below (H1.out.mono hB)).below ((Below.refl _ _).alloc (by omega) _)) (by simp; omega) (by omega) HX.out).mono ?_
  rintro e w2 ⟨o, rfl, hcp⟩
  have hs2 := hcp.bel.size
  simp only [World.size_alloc] at hs2
  have CP := Lib.hid hcp
  clear hcp
  go_wp2_with (go_at_call 148; refine (ofL_any _ _ _).mono ?_; rintro e w3 ⟨rfl, rfl⟩)
  go_ret2
  have hcp := CP.out
  have hol : o.length = n := hcp.len
  have hlt := hcp.blk.lt
  simp only [World.size_alloc] at hlt
  have hnum : Blk w2 w1.heap.size 3 #[.int .i64 n] := (Blk.new w1 3 #[.int .i64 (n : Int)]).below hcp.bel (by simp)
  refine ⟨?_, .inr ⟨by trivial, _, rfl, w1.heap.size + 1, w2.heap.size, w1.heap.size, o, ?_, ?_⟩⟩
  ·exact (((H1.out.trans ((Below.refl _ _).alloc hs1 _)).trans (hcp.bel.mono (by simp; omega))).alloc (by omega) _).alloc (by simp; omega) _
  ·refine ⟨?_, ?_, ?_, ?_, ?_, ⟨by rw [hol, ← HN.out]; exact hall.out.1, few_of hcp.val (fun x hx => (hcp.own x hx).in_.len_eq) (fun x hx => (HL.out.mem x hx).len_eq) HX.out⟩, hs1, ⟨Nat.lt_succ_self _, hlt, ?_⟩⟩
   ·have := Blk.new (w2.alloc (.cells #[.int .u32 0, .int .i32 0, .int .u32 0, tabMk w1.heap.size, .int .i32 0, .slice none 0 0] 312)) 258 #[.slice (some ⟨w1.heap.size + 1, 0, none⟩) n n, .pointer (some ⟨w2.heap.size, 0, none⟩)]
    simp only [World.size_alloc] at this
    rw [hol]; exact this
   ·have := (hcp.blk.alloc (.cells #[.int .u32 0, .int .i32 0, .int .u32 0, tabMk w1.heap.size, .int .i32 0, .slice none 0 0] 312)).alloc (.cells #[.slice (some ⟨w1.heap.size + 1, 0, none⟩) n n, .pointer (some ⟨w2.heap.size, 0, none⟩)] 258)
    simp only [World.size_alloc, List.append_nil] at this
    exact this
   ·intro x hx
    have h := hcp.own x hx
    simp only [World.size_alloc] at h
    exact (h.later ((Below.refl _ _).alloc (Nat.le_refl _) _) (Nat.le_refl _)).later ((Below.refl _ _).alloc (Nat.le_refl _) _) (Nat.le_refl _)
   ·exact Blk.alloc (Blk.new w2 _ _) _
   ·rw [hol]; exact (hnum.alloc _).alloc _
   ·simp
  ·rw [hcp.val, ← HN.out, List.take_length]
end Go.Proofs.YtmpedblelnpjdaaGreatDoor

end
section
/- Chain, of both. -/
namespace Go.Proofs.YtmpedblelnpjdaaGreatDoor
open Go.RowKit
set_option linter.unusedSimpArgs false
set_option linter.unusedVariables false
set_option maxHeartbeats 800000
set_option maxRecDepth 100000
def chainV (k : Nat) (n : Int) : Int := if n < 1 then 0 else ((k * 2654435761 % 4294967296 / 65536 % n.toNat : Nat) : Int)
theorem chainV_lt (k : Nat) (n : Int) (h : ¬ n < 1) : 0 ≤ chainV k n ∧ chainV k n < n := by
 unfold chainV
 rw [if_neg h]
 have := Nat.mod_lt (k * 2654435761 % 4294967296 / 65536) (show 0 < n.toNat by omega)
 omega
theorem chain_any (k : Nat) (hk : k < 4294967296) (n : Int) (hn : n ≤ 9223372036854775807) (w : World) :
  Calls Tryz.prog 146 #[.int .u32 k, .int .i64 n] w fun e w' => e = .returned (.int .i64 (chainV k n)) ∧ w = w' := by
 by_cases h : n < 1
 ·have hT : Hid (0 = chainV k n) := Lib.hid (by unfold chainV; rw [if_pos h])
  go_enter Tryz.func146, Tryz.ntmps146
  go_wp2
  go_ret
  exact ⟨ret_int hT.out, rfl⟩
 ·obtain ⟨m, rfl⟩ := Int.eq_ofNat_of_zero_le (show 0 ≤ n by omega)
  have hT : Hid (((k * 2654435761 % 4294967296 / 65536 % m : Nat) : Int) = chainV k m) := Lib.hid (by unfold chainV; rw [if_neg h]; rfl)
  go_enter Tryz.func146, Tryz.ntmps146
  go_wp2_with (fail)
  go_ret
  exact ⟨ret_int (by rw [← hT.out]; simp), rfl⟩
theorem refChain_any (k : Nat) (hk : k < 4294967296) (n : Int) (hn : n ≤ 9223372036854775807) (w : World) :
  Calls Tryz.prog 157 #[.int .u32 k, .int .i64 n] w fun e w' => e = .returned (.int .i64 (chainV k n)) ∧ w = w' := by
 by_cases h : n < 1
 ·have hT : Hid (0 = chainV k n) := Lib.hid (by unfold chainV; rw [if_pos h])
  go_enter Tryz.func157, Tryz.ntmps157
  go_wp2
  go_ret
  exact ⟨ret_int hT.out, rfl⟩
 ·obtain ⟨m, rfl⟩ := Int.eq_ofNat_of_zero_le (show 0 ≤ n by omega)
  have hT : Hid (((k * 2654435761 % 4294967296 / 65536 % m : Nat) : Int) = chainV k m) := Lib.hid (by unfold chainV; rw [if_neg h]; rfl)
  go_enter Tryz.func157, Tryz.ntmps157
  go_wp2_with (fail)
  have hw : wrap64 ((k : Int) * 2654435761 % 4294967296 / 65536 % (m : Int)) = (k : Int) * 2654435761 % 4294967296 / 65536 % (m : Int) := by
   have e : (k : Int) * 2654435761 % 4294967296 / 65536 % (m : Int) = ((k * 2654435761 % 4294967296 / 65536 % m : Nat) : Int) := by simp
   have hl := Nat.mod_le (k * 2654435761 % 4294967296 / 65536) m
   rw [e]
   generalize k * 2654435761 % 4294967296 / 65536 % m = y at *
   unfold wrap64
   omega
  go_ret
  exact ⟨ret_int (by rw [← hT.out, hw]; simp), rfl⟩
end Go.Proofs.YtmpedblelnpjdaaGreatDoor

end
section
/- Chains, Confs, Of, Head, Reader of an atlas. -/
namespace Go.Proofs.YtmpedblelnpjdaaGreatDoor
open Go.RowKit
set_option linter.unusedSimpArgs false
set_option linter.unusedVariables false
set_option maxHeartbeats 8000000
set_option maxRecDepth 100000
attribute [local go_sem] Cf.agg Cf.cells
theorem CfOwn.len_ {w : World} {base : Nat} {x : Cf} (h : CfOwn w base x) : x.zs.length = x.len := h.in_.len_eq
theorem CfsIn.of_blk {w : World} {q : Nat} {o : List Cf} (hb : Blk w q 33 ⟨o.flatMap Cf.row⟩) (ho : ∀ x ∈ o, CfIn w w.heap.size x) : CfsIn w w.heap.size (some ⟨q, 0, none⟩) o.length o := by
 refine ⟨⟨flat_length Cf.row 5 Cf.row_len o, fun _ => ⟨_, rfl, hb.lt, fun j u hu => ?_⟩⟩, ho⟩
 rw [Go.WideShapes.add_plain, hb.cell]
 simpa using hu
theorem AtX.cfs {w : World} {b0 G q h cB : Nat} {o : List Cf} (a : AtX w b0 G q h cB o) : CfsIn w w.heap.size (some ⟨q, 0, none⟩) o.length o :=
 .of_blk a.conf fun x hx => (a.own x hx).in_
theorem CpRel.cfs {w W : World} {l o : List Cf} {n : Nat} (a : CpRel w l n n o [] W) : CfsIn W W.heap.size (some ⟨w.heap.size, 0, none⟩) n o := by
 have := CfsIn.of_blk (by simpa using a.blk) fun x hx => (a.own x hx).in_
 rwa [a.len] at this
theorem chains_any (b0 G q h cB : Nat) (o : List Cf) (w : World) (a : AtX w b0 G q h cB o) :
  Calls Tryz.prog 151 #[.pointer (some ⟨G, 0, none⟩)] w fun e w' => e = .returned (.int .i64 o.length) ∧ w = w' := by
 have c0 : w.cell? ⟨G, 0, none⟩ = some (.slice (some ⟨q, 0, none⟩) o.length o.length) := a.blk.cell 0
 clear a
 go_enter Tryz.func151, Tryz.ntmps151
 go_wp2
 go_ret
 exact ⟨rfl, rfl⟩
theorem confs_any (b0 G q h cB : Nat) (o : List Cf) (w : World) (a : AtX w b0 G q h cB o) :
  Calls Tryz.prog 88 #[.pointer (some ⟨G, 0, none⟩)] w fun e w' => ∃ o2 : List Cf, e = .returned (.slice (some ⟨w.heap.size, 0, none⟩) o.length o.length) ∧ CpRel w o o.length o.length o2 [] w' := by
 have c0 : w.cell? ⟨G, 0, none⟩ = some (.slice (some ⟨q, 0, none⟩) o.length o.length) := a.blk.cell 0
 have HC := Lib.hid a.cfs
 have h4 := a.few.1.2
 have HF := Lib.hid a.few.2
 clear a
 go_enter Tryz.func88, Tryz.ntmps88
 go_wp2_with (fail)
 refine (copy_any _ _ _ _ o _ HC.out (Nat.le_refl _) (by omega) HF.out).mono ?_
 rintro e w1 ⟨o2, rfl, hcp⟩
 have CP := Lib.hid hcp
 clear hcp
 go_wp2
 go_ret
 exact ⟨o2, rfl, CP.out⟩
theorem atlOf_any (b0 G q h cB : Nat) (o : List Cf) (k : Nat) (hk : k < 4294967296) (w : World) (a : AtX w b0 G q h cB o) :
  Calls Tryz.prog 70 #[.pointer (some ⟨G, 0, none⟩), .int .u32 k] w fun e w' => ∃ y : Cf, e = .returned y.agg ∧ (o.map Cf.val)[(chainV k o.length).toNat]? = some y.val ∧ CfOwn w' w.heap.size y ∧ Below w.heap.size w w' := by
 have h1 := a.few.1.1
 have h4 := a.few.1.2
 obtain ⟨n, hn⟩ : ∃ n : Nat, o.length = n := ⟨_, rfl⟩
 rw [hn] at h1 h4 ⊢
 obtain ⟨c, hc⟩ : ∃ c : Nat, chainV k n = c := ⟨(chainV k n).toNat, by have := chainV_lt k n (by omega); omega⟩
 have hcn : c < n := by have := chainV_lt k n (by omega); omega
 have CH := chain_any k hk n (by omega)
 rw [hc] at CH ⊢
 clear hc
 rw [Int.toNat_natCast]
 have hb2 : Hid (Blk (w.alloc (.cells #[.int .i64 0, .int .u64 0, .slice none 0 0, .bool false, .int .i64 0] 33)) w.heap.size 33 #[.int .i64 0, .int .u64 0, .slice none 0 0, .bool false, .int .i64 0]) := Lib.hid (Blk.new w _ _)
 have AX := Lib.hid (a.below ((Below.refl _ _).alloc (Nat.le_refl _) (.cells #[.int .i64 0, .int .u64 0, .slice none 0 0, .bool false, .int .i64 0] 33)))
 have HNL := Lib.hid hn
 clear a hn
 go_enter Tryz.func70, Tryz.ntmps70
 go_wp2_with (fail)
 refine (confs_any b0 G q h cB o _ AX.out).mono ?_
 rintro e w1 ⟨o2, rfl, hcp⟩
 have hs := hcp.bel.size
 rw [HNL.out] at hcp ⊢
 have CI := hcp.cfs
 simp only [World.size_alloc] at CI hs
 obtain ⟨b, off, x, hA, _, hx, hxin, q0, q1, q2, q3, q4⟩ := CI.at_ hcn
 injection hA with hA
 injection hA with hA1 hA2
 subst hA1 hA2
 simp only [Nat.zero_add] at q0 q1 q2 q3 q4
 have ho2 := hcp.own x (List.mem_of_getElem? hx)
 simp only [World.size_alloc] at ho2
 have HV : Hid ((o.map Cf.val)[c]? = some x.val) := Lib.hid (by
  have hv := hcp.val
  rw [List.take_of_length_le (by rw [HNL.out]; exact Nat.le_refl _)] at hv
  rw [← hv, List.getElem?_map, hx]; rfl)
 have HO := Lib.hid ho2
 have b2 := hb2.out.below hcp.bel (by simp)
 have d0 : w1.cell? ⟨w.heap.size, 0, none⟩ = some (.int .i64 0) := by rw [b2.cell]; rfl
 have d1 : w1.cell? ⟨w.heap.size, 1, none⟩ = some (.int .u64 0) := by rw [b2.cell]; rfl
 have d2 : w1.cell? ⟨w.heap.size, 2, none⟩ = some (.slice none 0 0) := by rw [b2.cell]; rfl
 have d3 : w1.cell? ⟨w.heap.size, 3, none⟩ = some (.bool false) := by rw [b2.cell]; rfl
 have d4 : w1.cell? ⟨w.heap.size, 4, none⟩ = some (.int .i64 0) := by rw [b2.cell]; rfl
 have e0 := b2.frozen 0
 have e1 := b2.frozen 1
 have e2 := b2.frozen 2
 have e3 := b2.frozen 3
 have e4 := b2.frozen 4
 have B2 := Lib.hid b2
 have A1 := Lib.hid (AX.out.below hcp.bel)
 have BE := Lib.hid (((Below.refl w.heap.size w).alloc (Nat.le_refl _) (.cells #[.int .i64 0, .int .u64 0, .slice none 0 0, .bool false, .int .i64 0] 33)).trans (hcp.bel.mono (by simp)))
 have CC : Hid (Calls Tryz.prog 151 #[.pointer (some ⟨G, 0, none⟩)] w1 fun e w' => e = .returned (.int .i64 n) ∧ w1 = w') := Lib.hid (by
  have := chains_any b0 G q h cB o w1 A1.out
  rwa [HNL.out] at this)
 clear hcp CI hx hxin ho2 b2 hb2 AX
 go_wp2_with (first | (go_at_call 151; refine CC.out.mono ?_; rintro e w' ⟨rfl, rfl⟩) | (go_at_call 146; refine (CH _).mono ?_; rintro e w' ⟨rfl, rfl⟩) | fail)
 have F := ((((B2.out.set_ 0 (.int .i64 x.ch)).set_ 1 (.int .u64 x.ep)).set_ 2 (.slice x.A x.len x.cap)).set_ 3 (.bool x.fr)).set_ 4 (.int .i64 x.jn)
 have G0 := (F.cell 0).trans (show _ = some (Value.int .i64 x.ch) from rfl)
 have G1 := (F.cell 1).trans (show _ = some (Value.int .u64 x.ep) from rfl)
 have G2 := (F.cell 2).trans (show _ = some (Value.slice x.A x.len x.cap) from rfl)
 have G3 := (F.cell 3).trans (show _ = some (Value.bool x.fr) from rfl)
 have G4 := (F.cell 4).trans (show _ = some (Value.int .i64 x.jn) from rfl)
 clear F
 refine bodyPost_ret (v := x.agg) (by simp [results, Tryz.results70, go_sem, G0, G1, G2, G3, G4]) rfl ⟨x, rfl, HV.out, ?_, ?_⟩
 ·refine own_mono (base := w.heap.size + 1 + 1) ?_ (by omega)
  iterate 5 refine ownsRow_setCell_below ?_ (by simp; omega) _
  exact HO.out
 ·iterate 5 refine Below.setCell ?_ (by simp) _
  exact BE.out
def OneOf (vs : List (Int × Int × List Int × Bool × Int)) (k : Nat) (y : Cf) : Prop := vs[(chainV k vs.length).toNat]? = some y.val ∧ y.zs.length = y.len
theorem aHead_any (b0 G q h cB : Nat) (o : List Cf) (k : Nat) (hk : k < 4294967296) (w : World) (a : AtX w b0 G q h cB o) :
  Calls Tryz.prog 154 #[.pointer (some ⟨G, 0, none⟩), .int .u32 k] w fun e w' => ∃ y : Cf, OneOf (o.map Cf.val) k y ∧ e = .returned (.int .i64 y.headV) ∧ Below w.heap.size w w' := by
 have O := Lib.hid (atlOf_any b0 G q h cB o k hk w a)
 clear a
 go_enter Tryz.func154, Tryz.ntmps154
 go_wp2_with (fail)
 refine O.out.mono ?_
 rintro e w1 ⟨y, rfl, hy, ho, hb⟩
 have HY : Hid (OneOf (o.map Cf.val) k y) := Lib.hid ⟨by rw [List.length_map]; exact hy, ho.len_⟩
 have HI := Lib.hid ho.in_
 have HB := Lib.hid hb
 clear hy ho hb
 go_wp2_with (fail)
 refine (head_any y w1.heap.size w1 HI.out (Nat.le_refl _)).mono ?_
 rintro e w2 ⟨rfl, hb2⟩
 have HB2 := Lib.hid hb2
 clear hb2
 go_wp2
 go_ret
 exact ⟨y, HY.out, rfl, HB.out.trans (HB2.out.mono HB.out.size)⟩
theorem aReader_any (b0 G q h cB : Nat) (o : List Cf) (k : Nat) (hk : k < 4294967296) (p : Int) (hp : p ≤ 9223372036854775807) (w : World) (a : AtX w b0 G q h cB o) :
  Calls Tryz.prog 152 #[.pointer (some ⟨G, 0, none⟩), .int .u32 k, .int .i64 p] w fun e w' => ∃ y : Cf, OneOf (o.map Cf.val) k y ∧ e = .returned (.int .i64 (y.readV p)) ∧ Below w.heap.size w w' := by
 have O := Lib.hid (atlOf_any b0 G q h cB o k hk w a)
 clear a
 go_enter Tryz.func152, Tryz.ntmps152
 go_wp2_with (fail)
 refine O.out.mono ?_
 rintro e w1 ⟨y, rfl, hy, ho, hb⟩
 have HY : Hid (OneOf (o.map Cf.val) k y) := Lib.hid ⟨by rw [List.length_map]; exact hy, ho.len_⟩
 have HI := Lib.hid ho.in_
 have HB := Lib.hid hb
 clear hy ho hb
 go_wp2_with (fail)
 refine (reader_any y p hp w1.heap.size w1 HI.out (Nat.le_refl _)).mono ?_
 rintro e w2 ⟨rfl, hb2⟩
 have HB2 := Lib.hid hb2
 clear hb2
 go_wp2
 go_ret
 exact ⟨y, HY.out, rfl, HB.out.trans (HB2.out.mono HB.out.size)⟩
end Go.Proofs.YtmpedblelnpjdaaGreatDoor

end
section
/- catenaryref09.Begin. -/
namespace Go.Proofs.YtmpedblelnpjdaaGreatDoor
open Go.RowKit
set_option linter.unusedSimpArgs false
set_option linter.unusedVariables false
set_option maxHeartbeats 8000000
set_option maxRecDepth 100000
attribute [local go_sem] Cf.agg Cf.cells
theorem own_own_ne {w : World} {b b' : Nat} {e e' : TypeId} {s s' n n' : Nat} {v v' : Value} {xs xs' : List Value} (h : w.ownsRow b e s v n xs) (h' : w.ownsRow b' e' s' v' n' xs') (hne : e ≠ e') : v.ownBlock = none ∨ v.ownBlock ≠ v'.ownBlock := by
 rcases h.2 with ⟨rfl, _⟩ | ⟨g, cap, cur, rfl, _, hg, _⟩
 ·exact .inl rfl
 ·exact .inr fun e1 => own_blk_ne h' hg (Ne.symm hne) e1.symm
theorem CfOwn.grown {w w' : World} {base b s n : Nat} {v : Value} {xs : List Value} {x : Cf} (h : CfOwn w base x) (hg : w.grownBy w' v.ownBlock) (ho : w.ownsRow b 33 s v n xs) : CfOwn w' base x :=
 h.kept hg (own_own_ne h ho (by decide))
def nodesI (a m : Nat) : List Int := (List.range m).map fun j => ((a + j + 1 : Nat) : Int)
theorem nodesI_succ (a m : Nat) : nodesI a (m + 1) = nodesI a m ++ [((a + m + 1 : Nat) : Int)] := by unfold nodesI; rw [List.range_succ, List.map_append]; rfl
theorem nodesI_len (a m : Nat) : (nodesI a m).length = m := by unfold nodesI; simp
def begV (per i : Nat) : Int × Int × List Int × Bool × Int := ((i : Int), 1, nodesI (i * per) per, false, 0)
structure InRel (W : World) (i a k : Nat) (u : Value) (V : World) : Prop where
 box : Blk V W.heap.size 33 #[.int .i64 i, .int .u64 1, u, .bool false, .int .i64 0]
 own : V.ownsRow (W.heap.size + 1) 3 1 u k ((nodesI a k).map (Value.int .i64))
 bel : Below W.heap.size W V
theorem InRel.put {W V w1 : World} {i a k : Nat} {u v : Value} {ob : Obj} (h : InRel W i a k u V) (hown : w1.ownsRow (W.heap.size + 1) 3 1 v (k + 1) ((nodesI a k).map (Value.int .i64) ++ [.int .i64 ((a : Int) + k + 1)])) (hg : (V.alloc ob).grownBy w1 u.ownBlock) :
  InRel W i a (k + 1) v (w1.setCell ⟨W.heap.size, 2, none⟩ v) := by
 have hn : some W.heap.size ≠ u.ownBlock := fun e => by have := (h.own.lt _ e.symm).1; omega
 refine ⟨?_, ?_, ?_⟩
 ·exact ((h.box.alloc ob).grown hg hn).set_ 2 v
 ·refine ownsRow_setCell_below ?_ (by simp) _
  rw [nodesI_succ, List.map_append]
  exact hown
 ·exact ((h.bel.alloc h.bel.size ob).grown hg (by have := h.bel.size; simp; omega) (fun j hj => by have := (h.own.lt _ hj).1; omega)).setCell (by simp) _
structure BgRel (w : World) (per i : Nat) (v : Value) (l : List Cf) (W : World) : Prop where
 own : W.ownsRow w.heap.size 33 5 v l.length (l.flatMap Cf.row)
 len : l.length = i
 val : l.map Cf.val = (List.range i).map (begV per)
 mem : ∀ x ∈ l, CfOwn W w.heap.size x
 bel : Below w.heap.size w W
theorem BgRel.put {w W V w1 : World} {per i a : Nat} {v v1 : Value} {l : List Cf} {A : Option Addr} {c : Nat} {ob : Obj} (h : BgRel w per i v l W) (ha : a = i * per) (hi : InRel W i a per (.slice A per c) V)
  (hown : w1.ownsRow w.heap.size 33 5 v1 (l.length + 1) (l.flatMap Cf.row ++ [.int .i64 i, .int .u64 1, .slice A per c, .bool false, .int .i64 0])) (hg : (V.alloc ob).grownBy w1 v.ownBlock) :
  BgRel w per (i + 1) v1 (l ++ [⟨i, 1, A, per, c, false, 0, nodesI a per⟩]) w1 := by
 have hs := h.bel.size
 have hsV := hi.bel.size
 have hov : V.ownsRow w.heap.size 33 5 v l.length (l.flatMap Cf.row) := h.own.kept (only_of_below hi.bel none) (by cases v.ownBlock <;> simp)
 have hoA := hov.alloc ob
 refine ⟨?_, ?_, ?_, ?_, ?_⟩
 ·rw [List.length_append, List.flatMap_append, List.flatMap_singleton]; exact hown
 ·rw [List.length_append, h.len]; rfl
 ·rw [List.map_append, h.val, List.range_succ, List.map_append]
  subst ha
  rfl
 ·intro x hx
  rw [List.mem_append, List.mem_singleton] at hx
  rcases hx with hx | rfl
  ·exact (((h.mem x hx).later hi.bel (Nat.le_refl _)).later ((Below.refl _ _).alloc (Nat.le_refl _) _) (Nat.le_refl _)).grown hg hoA
  ·have : CfOwn (V.alloc ob) w.heap.size ⟨i, 1, A, per, c, false, 0, nodesI a per⟩ := own_mono (hi.own.alloc ob) (by omega)
   exact this.grown hg hoA
 ·exact ((h.bel.trans (hi.bel.mono hs)).alloc (by omega) ob).grown hg (by simp; omega) (fun j hj => (h.own.lt j hj).1)
theorem begin_any (m per : Nat) (w : World) (h1 : 1 ≤ m) (h2 : m ≤ 4) (h3 : 1 ≤ per) (h4 : per ≤ 5) :
  Calls Tryz.prog 65 #[.int .i64 m, .int .i64 per] w fun e w' => ∃ v l, e = .returned (.tuple #[v, .int .i64 0]) ∧ BgRel w per m v l w' := by
 obtain ⟨i0, hi, hz0, hz1, hz2⟩ := info_parts i64Info
 obtain ⟨c0, hci, hcz0, hcz1, hcz2⟩ := info_parts confInfo
 go_enter Tryz.func65, Tryz.ntmps65
 go_wp2
 go_loopw [6, 7, 8] (fun v n i wr => ∃ (k a : Nat) (l : List Cf), k ≤ m ∧ n = .int .i64 a ∧ i = .int .i64 k ∧ Hid (a = k * per) ∧ a ≤ 20 ∧ BgRel w per k v l wr) (fun _ _ i _ => m - (intOf i).toNat)
 case atStart => exact ⟨0, 0, [], by omega, rfl, rfl, Lib.hid (by simp), by omega, ⟨World.ownsRow_nil _ _ _ _, rfl, rfl, by simp, Below.refl _ _⟩⟩
 case round =>
  obtain ⟨k, a, l, hk, rfl, rfl, ha, ha20, hrel⟩ := hrel
  have HP := Lib.hid hrel
  have hsz := hrel.bel.size
  have hll := hrel.len
  clear hrel
  by_cases hlt : k < m
  ·have ha2 : Hid (a + per = (k + 1) * per ∧ a + per ≤ 20) := Lib.hid (by
    have h5 := Nat.mul_le_mul (show k + 1 ≤ 4 by omega) h4
    have h6 : (k + 1) * per = k * per + per := Nat.succ_mul k per
    rw [ha.out]; omega)
   rename World => W
   go_wp2_with (fail)
   go_loopw [7, 10] (fun n j wv => ∃ (t : Nat) (u : Value), t ≤ per ∧ n = .int .i64 ((a : Int) + t) ∧ j = .int .i64 t ∧ InRel W k a t u wv) (fun _ j _ => per - (intOf j).toNat)
   case atStart => exact ⟨0, _, Nat.zero_le _, by simp, rfl, ⟨Blk.new _ _ _, World.ownsRow_nil _ _ _ _, (Below.refl _ _).alloc (Nat.le_refl _) _⟩⟩
   case round =>
    obtain ⟨t, u, ht, rfl, rfl, hin⟩ := hrel
    have HI := Lib.hid hin
    have hsv := hin.bel.size
    have hbl := hin.box.lt
    have c2 : wr.cell? ⟨W.heap.size, 2, none⟩ = some u := hin.box.cell 2
    clear hin
    by_cases htp : t < per
    ·go_wp2_with (at_builtin; go_must (refine wpList_append_any _ rfl (.tmp 40) (.tmp 42) _ rfl (W.heap.size + 1) 3 i0 _ 1 8 Tryz.underlying31 hi hz0 hz1 hz2 rfl (by omega) u t _ rfl (HI.out.own.alloc _) (wr.heap.size + 1) (some ⟨wr.heap.size, 0, none⟩) 1 1 [.int .i64 ((a : Int) + t + 1)] rfl ?c0 ?c1 ?c2 ?c3 ?c4 ?_))
     case c0 => exact ⟨rfl, fun _ => ⟨_, rfl, by simp, fun j u hu => cells_new _ _ _ j u hu⟩⟩
     case c1 => intro u hu; simp at hu; subst hu; rfl
     case c2 => unfold maxLen; omega
     case c3 => omega
     case c4 => simp; omega
     intro v w1 hown hg _
     obtain ⟨A1, cc1, rfl, _, _, _⟩ := own_slice hown
     have hn : some W.heap.size ≠ u.ownBlock := fun e => by have := (HI.out.own.lt _ e.symm).1; omega
     have b1 := (HI.out.box.alloc _).grown hg hn
     have d2 : w1.cell? ⟨W.heap.size, 2, none⟩ = some u := b1.cell 2
     have f2 := b1.frozen 2
     have P := Lib.hid (HI.out.put hown hg)
     clear hown hg b1 c2
     go_wp2_with (fail)
     exact ⟨⟨t + 1, _, htp, by congr 1, rfl, P.out⟩, by simp [intOf]; omega⟩
    ·obtain rfl : t = per := by omega
     obtain ⟨A1, cc1, rfl, _, _, _⟩ := own_slice HI.out.own
     have k0 : wr.cell? ⟨W.heap.size, 0, none⟩ = some (.int .i64 k) := HI.out.box.cell 0
     have k1 : wr.cell? ⟨W.heap.size, 1, none⟩ = some (.int .u64 1) := HI.out.box.cell 1
     have k3 : wr.cell? ⟨W.heap.size, 3, none⟩ = some (.bool false) := HI.out.box.cell 3
     have k4 : wr.cell? ⟨W.heap.size, 4, none⟩ = some (.int .i64 0) := HI.out.box.cell 4
     have OWN := Lib.hid (HP.out.own.kept (only_of_below HI.out.bel none) (by cases u6.ownBlock <;> simp))
     go_wp2_with (at_builtin; go_must (refine wpList_append_any _ rfl (.tmp 45) (.tmp 47) _ rfl w.heap.size 33 c0 _ 5 56 Tryz.underlying52 hci hcz0 hcz1 hcz2 rfl (by omega) u6 l.length _ rfl (OWN.out.alloc _) (wr.heap.size + 1) (some ⟨wr.heap.size, 0, none⟩) 1 1 [.int .i64 k, .int .u64 1, .slice A1 t cc1, .bool false, .int .i64 0] rfl ?c0 ?c1 ?c2 ?c3 ?c4 ?_))
     case c0 => exact ⟨rfl, fun _ => ⟨_, rfl, by simp, fun j u hu => cells_new _ _ _ j u hu⟩⟩
     case c1 => intro u hu; simp at hu; rcases hu with rfl | rfl | rfl | rfl | rfl <;> rfl
     case c2 => unfold maxLen; omega
     case c3 => omega
     case c4 => simp; omega
     intro v w1 hown hg _
     rw [show k + 1 = l.length + 1 by rw [hll]] at hown
     have P := Lib.hid (HP.out.put ha.out HI.out hown hg)
     clear hown hg k0 k1 k3 k4 c2
     go_wp2_with (fail)
     exact ⟨⟨k + 1, a + t, _, hlt, by simp, rfl, Lib.hid ha2.out.1, ha2.out.2, P.out⟩, by simp [intOf]; omega⟩
  ·obtain rfl : k = m := by omega
   go_wp2_with (fail)
   go_ret2
   exact ⟨_, l, rfl, HP.out⟩
end Go.Proofs.YtmpedblelnpjdaaGreatDoor

end
section
/- The page's example. -/
namespace Go.Proofs.YtmpedblelnpjdaaGreatDoor
open Go.RowKit
set_option linter.unusedSimpArgs false
set_option linter.unusedVariables false
set_option maxHeartbeats 8000000
set_option maxRecDepth 100000
theorem BgRel.cfs {w W : World} {per m : Nat} {A : Option Addr} {n c : Nat} {l : List Cf} (h : BgRel w per m (.slice A n c) l W) : CfsIn W W.heap.size A l.length l := by
 obtain ⟨A1, c1, e, hr, _, _⟩ := own_slice h.own
 injection e with e1 e2 e3
 subst e1 e2 e3
 exact ⟨hr, fun x hx => (h.mem x hx).in_⟩
theorem val_cf {y : Cf} {i ep : Nat} {zs : List Int} (h : ((i : Int), (ep : Int), zs, false, (0 : Int)) = y.val) (hl : y.zs.length = y.len) : y.ch = i ∧ y.ep = ep ∧ y.zs = zs ∧ y.fr = false ∧ y.jn = 0 ∧ y.len = zs.length := by
 unfold Cf.val at h
 simp only [Prod.mk.injEq] at h
 obtain ⟨h1, h2, h3, h4, h5⟩ := h
 exact ⟨h1.symm, by omega, h3.symm, h4.symm, h5.symm, by rw [← hl, h3]⟩
theorem right_of {y : Cf} {i : Nat} {zs : List Int} (h : ((i : Int), ((1 : Nat) : Int), zs, false, (0 : Int)) = y.val) (hl : y.zs.length = y.len) (hi : i < 4) (h1 : 1 ≤ zs.length ∧ zs.length ≤ 5) (hu : Unl zs) : y.right = true ∧ y.stands = zs := by
 obtain ⟨a, b, c, d, e, f⟩ := val_cf h hl
 have hs : y.stands = zs := by unfold Cf.stands; rw [c, e, if_pos rfl, List.append_nil]
 refine ⟨?_, hs⟩
 unfold Cf.right
 rw [Bool.and_eq_true, decide_eq_true_eq, unlikeB_iff, hs]
 refine ⟨?_, hu⟩
 unfold Cf.fine
 rw [a, b, d, e, f]
 exact ⟨⟨by omega, by omega⟩, by omega, h1, by simp⟩
theorem nodesI_get {a k j : Nat} {z : Int} (h : (nodesI a k)[j]? = some z) : j < k ∧ z = ((a + j + 1 : Nat) : Int) := by
 unfold nodesI at h
 rw [List.getElem?_map] at h
 rcases Nat.lt_or_ge j k with hj | hj
 ·rw [List.getElem?_range hj] at h
  injection h with h
  exact ⟨hj, h.symm⟩
 ·rw [List.getElem?_eq_none (by simpa using hj)] at h
  cases h
theorem unl_nodesI (a k : Nat) (h : a + k ≤ 24) : Unl (nodesI a k) := by
 intro j z hz
 obtain ⟨hj, rfl⟩ := nodesI_get hz
 refine ⟨(nodeB_iff _).2 (by omega), fun hm => ?_⟩
 obtain ⟨i, hi, he⟩ := List.getElem_of_mem hm
 have h1 : ((nodesI a k).take j)[i]? = some (((a + j + 1 : Nat) : Int)) := by rw [List.getElem?_eq_getElem hi, he]
 have hij : i < j := by rw [List.length_take] at hi; omega
 rw [List.getElem?_take_of_lt hij] at h1
 have := (nodesI_get h1).2
 omega
theorem nodesI_app (a b c : Nat) {k : Nat} (h : b = a + k) : nodesI a k ++ nodesI b c = nodesI a (k + c) := by
 subst h
 induction c with
 | zero => simp [nodesI]
 | succ c ih => rw [nodesI_succ, ← List.append_assoc, ih, ← Nat.add_assoc, nodesI_succ]; congr 3; omega
theorem flat_nodesI (per : Nat) : ∀ m, (List.range m).flatMap (fun i => nodesI (i * per) per) = nodesI 0 (m * per)
 | 0 => by simp [nodesI]
 | m + 1 => by rw [List.range_succ, List.flatMap_append, flat_nodesI per m, List.flatMap_singleton, nodesI_app 0 (m * per) per (by omega), Nat.succ_mul]
theorem beg_at {l : List Cf} {per m j : Nat} {x : Cf} (hv : l.map Cf.val = (List.range m).map (begV per)) (hx : l[j]? = some x) : j < m ∧ begV per j = x.val := by
 have h : (l.map Cf.val)[j]? = some x.val := by rw [List.getElem?_map, hx]; rfl
 rw [hv, List.getElem?_map] at h
 rcases Nat.lt_or_ge j m with hj | hj
 ·rw [List.getElem?_range hj] at h
  injection h with h
  exact ⟨hj, h⟩
 ·rw [List.getElem?_eq_none (by simpa using hj)] at h
  cases h
theorem beg_right {l : List Cf} {per m j : Nat} {x : Cf} (hv : l.map Cf.val = (List.range m).map (begV per)) (hl : ∀ x ∈ l, x.zs.length = x.len) (h2 : m ≤ 4) (h3 : 1 ≤ per) (h4 : per ≤ 5) (hx : l[j]? = some x) :
  x.ch = j ∧ x.right = true ∧ x.stands = nodesI (j * per) per := by
 obtain ⟨hj, he⟩ := beg_at hv hx
 have hz := hl x (List.mem_of_getElem? hx)
 have he' : ((j : Int), ((1 : Nat) : Int), nodesI (j * per) per, false, (0 : Int)) = x.val := he
 have h5 := Nat.mul_le_mul (show j + 1 ≤ 4 by omega) h4
 have h6 : (j + 1) * per = j * per + per := Nat.succ_mul j per
 obtain ⟨hr, hs⟩ := right_of he' hz (by omega) (by rw [nodesI_len]; omega) (unl_nodesI _ _ (by omega))
 exact ⟨(val_cf he' hz).1, hr, hs⟩
theorem beg_all {l : List Cf} {per m : Nat} (hv : l.map Cf.val = (List.range m).map (begV per)) (hl : ∀ x ∈ l, x.zs.length = x.len) (h1 : 1 ≤ m) (h2 : m ≤ 4) (h3 : 1 ≤ per) (h4 : per ≤ 5) : allB l = true := by
 have hn : l.length = m := by have := congrArg List.length hv; simpa using this
 refine allB_iff.2 ⟨by omega, ?_, ?_⟩
 ·intro j x _ hx
  obtain ⟨a, b, _⟩ := beg_right hv hl h2 h3 h4 hx
  exact ⟨a, b⟩
 ·have hs : l.map Cf.stands = (List.range m).map (fun i => nodesI (i * per) per) := by
   apply List.ext_getElem?
   intro j
   rw [List.getElem?_map, List.getElem?_map]
   rcases hx : l[j]? with _ | x
   ·rw [List.getElem?_eq_none (by rw [List.length_range]; have := List.getElem?_eq_none_iff.1 hx; omega)]; rfl
   ·obtain ⟨_, _, c⟩ := beg_right hv hl h2 h3 h4 hx
    rw [List.getElem?_range (beg_at hv hx).1]
    simp [c]
  have h5 := Nat.mul_le_mul h2 h4
  rw [List.flatMap_def, hs, ← List.flatMap_def, flat_nodesI]
  exact unl_nodesI _ _ (by omega)
theorem one_beg {per m k : Nat} {y : Cf} (h : OneOf ((List.range m).map (begV per)) k y) : begV per (chainV k m).toNat = y.val := by
 have h1 := h.1
 rw [List.length_map, List.length_range, List.getElem?_map] at h1
 rcases Nat.lt_or_ge (chainV k m).toNat m with hj | hj
 ·rw [List.getElem?_range hj] at h1
  injection h1
 ·rw [List.getElem?_eq_none (by simpa using hj)] at h1
  cases h1
end Go.Proofs.YtmpedblelnpjdaaGreatDoor

end
