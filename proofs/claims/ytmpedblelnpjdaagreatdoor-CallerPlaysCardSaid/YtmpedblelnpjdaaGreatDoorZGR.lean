/- GR: RolA RolB BalA -/
import Derived.Test.YtmpedblelnpjdaaGreatDoorZGA
import Derived.Test.YtmpedblelnpjdaaGreatDoorZTq
import Derived.Test.YtmpedblelnpjdaaGreatDoorRows
import Derived.WalkKit
import Derived.WalkLawsBesides
import Derived.WalkSpells
import Derived.Outline
import Derived.Lib.Hide
/- Configurations as data; contracts of packages conf and ref09: node, Index, Contains, Has, unlike. -/
namespace Go.Proofs.YtmpedblelnpjdaaGreatDoor
open Go.RowKit
set_option linter.unusedSimpArgs false
set_option linter.unusedVariables false
set_option maxHeartbeats 1000000
theorem i64Info : (Tryz.prog.info? 3).map (fun i => (i.zero, i.size, i.bytes)) = some (some (.int .i64 0), 1, 8) := by kernel_rfl
theorem i64_one (l : List Int) : ∀ u ∈ l.map (Value.int .i64), u.oneCell' = true := by
 intro u hu; obtain ⟨z, _, rfl⟩ := List.mem_map.1 hu; rfl
def nodeB (n : Int) : Bool := decide (1 ≤ n) && decide (n ≤ 24)
theorem nodeB_iff (n : Int) : nodeB n = true ↔ 1 ≤ n ∧ n ≤ 24 := by simp [nodeB]
theorem cnode_any (n : Int) (w : World) : Calls Tryz.prog 291 #[.int .i64 n] w fun e w' => e = .returned (.bool (nodeB n)) ∧ w = w' := by
 unfold nodeB
 by_cases h1 : 1 ≤ n
 all_goals by_cases h2 : n ≤ 24
 all_goals
  go_enter Tryz.func291, Tryz.ntmps291
  go_wp2
  go_ret
  exact ⟨by simp; omega, rfl⟩
def idxOf (l : List Int) (x : Int) : Int := if x ∈ l then ((l.idxOf x : Nat) : Int) else -1
theorem idx_step (l : List Int) (k : Nat) (z x : Int) (h : l[k]? = some z) (hn : x ∉ l.take k) (hne : z ≠ x) : x ∉ l.take (k + 1) := by
 rw [List.take_add_one, h]
 simp only [Option.toList_some, List.mem_append, List.mem_singleton]
 rintro (h1 | h1)
 ·exact hn h1
 ·exact hne h1.symm
theorem idx_found (l : List Int) (k : Nat) (x : Int) (h : l[k]? = some x) (hn : x ∉ l.take k) : idxOf l x = k := by
 have hk := (List.getElem?_eq_some_iff.1 h).1
 have hm : x ∈ l := by rw [List.mem_iff_getElem?]; exact ⟨k, h⟩
 rw [idxOf, if_pos hm]
 have hsp : l = l.take k ++ (x :: l.drop (k + 1)) := by
  rw [← (List.getElem?_eq_some_iff.1 h).2, List.getElem_cons_drop, List.take_append_drop]
 have : l.idxOf x = k := by
  conv => lhs; rw [hsp]
  rw [List.idxOf_append, if_neg hn, List.idxOf_cons_self, List.length_take]
  omega
 rw [this]
theorem idx_none (l : List Int) (x : Int) (h : x ∉ l) : idxOf l x = -1 := by rw [idxOf, if_neg h]
theorem index_any (A : Option Addr) (n c B : Nat) (zs : List Int) (x : Int) (w : World) (hr : Reads w B 1 A n (zs.map (Value.int .i64))) (hn : n ≤ maxLen) :
  Calls Tryz.prog 318 #[.slice A n c, .int .i64 x] w fun e w' => e = .returned (.int .i64 (idxOf zs x)) ∧ w = w' := by
 unfold maxLen at hn
 have HR := Lib.hid hr
 have HL : Hid (zs.length = n) := Lib.hid (by have := hr.1; simpa using this)
 clear hr
 go_enter Tryz.func318, Tryz.ntmps318
 go_wp2
 go_loop [5, 8] (fun _ i => ∃ k : Nat, k ≤ n ∧ i = .int .i64 k ∧ Hid (x ∉ zs.take k)) (fun _ i => n - (intOf i).toNat)
 case atStart => exact ⟨0, by omega, rfl, Lib.hid (by simp)⟩
 case round =>
  obtain ⟨k, hk, rfl, hno⟩ := hrel
  by_cases hlt : k < n
  ·obtain ⟨ad, z, rfl, _, hz, hc⟩ := reads_int HR.out hlt
   have HZ := Lib.hid hz
   clear hz
   have hlt' : (k : Int) < n := by omega
   by_cases he : x = z
   ·have he' : (x == z) = true := by simp [he]
    have hi : Hid (idxOf zs x = k) := Lib.hid (idx_found zs k x (by rw [HZ.out, he]) hno.out)
    clear he
    go_wp2
    go_ret
    exact ⟨ret_int hi.out.symm, rfl⟩
   ·have he' : (x == z) = false := by simp [he]
    have hs := Lib.hid (idx_step zs k z x HZ.out hno.out (fun e => he e.symm))
    clear he
    go_wp2
    go_round
    case rel => exact ⟨k + 1, by omega, by go_num, hs⟩
    case measure => simp [intOf]; omega
  ·have hs : Hid (-1 = idxOf zs x) := Lib.hid (by
    have := hno.out
    rw [List.take_of_length_le (by rw [HL.out]; omega)] at this
    exact (idx_none zs x this).symm)
   go_wp2
   go_ret
   exact ⟨ret_int hs.out, rfl⟩
theorem contains_any (A : Option Addr) (n c B : Nat) (zs : List Int) (x : Int) (w : World) (hr : Reads w B 1 A n (zs.map (Value.int .i64))) (hn : n ≤ maxLen) :
  Calls Tryz.prog 292 #[.slice A n c, .int .i64 x] w fun e w' => e = .returned (.bool (decide (x ∈ zs))) ∧ w = w' := by
 by_cases hx : x ∈ zs
 ·have h1 : 0 ≤ idxOf zs x := by rw [idxOf, if_pos hx]; omega
  have h2 : Hid (true = decide (x ∈ zs)) := Lib.hid (by simp [hx])
  have H := Lib.hid hr
  clear hx hr
  go_enter Tryz.func292, Tryz.ntmps292
  go_wp2_with (first | (go_at_call 318; refine (index_any A n c B zs x _ H.out hn).mono ?_; rintro e w' ⟨rfl, rfl⟩) | fail)
  go_ret
  exact ⟨ret_bool (by rw [← h2.out]), rfl⟩
 ·have h1 : idxOf zs x = -1 := by rw [idxOf, if_neg hx]
  have h2 : Hid (false = decide (x ∈ zs)) := Lib.hid (by simp [hx])
  have I := fun w hr => index_any A n c B zs x w hr hn
  rw [h1] at I
  have H := Lib.hid hr
  clear hx hr h1
  go_enter Tryz.func292, Tryz.ntmps292
  go_wp2_with (first | (go_at_call 318; refine (I _ H.out).mono ?_; rintro e w' ⟨rfl, rfl⟩) | fail)
  go_ret
  exact ⟨ret_bool h2.out, rfl⟩
theorem refHas_any (A : Option Addr) (n c B : Nat) (zs : List Int) (x : Int) (w : World) (hr : Reads w B 1 A n (zs.map (Value.int .i64))) (hn : n ≤ maxLen) :
  Calls Tryz.prog 235 #[.slice A n c, .int .i64 x] w fun e w' => e = .returned (.bool (decide (x ∈ zs))) ∧ w = w' := by
 unfold maxLen at hn
 have HR := Lib.hid hr
 have HL : Hid (zs.length = n) := Lib.hid (by have := hr.1; simpa using this)
 clear hr
 go_enter Tryz.func235, Tryz.ntmps235
 go_wp2
 go_loop [5] (fun i => ∃ k : Nat, k ≤ n ∧ i = .int .i64 k ∧ Hid (x ∉ zs.take k)) (fun i => n - (intOf i).toNat)
 case atStart => exact ⟨0, by omega, rfl, Lib.hid (by simp)⟩
 case round =>
  obtain ⟨k, hk, rfl, hno⟩ := hrel
  by_cases hlt : k < n
  ·obtain ⟨ad, z, rfl, _, hz, hc⟩ := reads_int HR.out hlt
   have HZ := Lib.hid hz
   clear hz
   have hlt' : (k : Int) < n := by omega
   by_cases he : x = z
   ·have he' : (z == x) = true := by simp [he]
    have hi : Hid (true = decide (x ∈ zs)) := Lib.hid (by
     symm; rw [decide_eq_true_eq, List.mem_iff_getElem?]; exact ⟨k, by rw [HZ.out, he]⟩)
    clear he
    go_wp2
    go_ret
    exact ⟨ret_bool hi.out, rfl⟩
   ·have he' : (z == x) = false := by simp; exact fun e => he e.symm
    have hs := Lib.hid (idx_step zs k z x HZ.out hno.out (fun e => he e.symm))
    clear he
    go_wp2
    go_round
    case rel => exact ⟨k + 1, by omega, by go_num, hs⟩
    case measure => simp [intOf]; omega
  ·have hs : Hid (false = decide (x ∈ zs)) := Lib.hid (by
    have := hno.out
    rw [List.take_of_length_le (by rw [HL.out]; omega)] at this
    symm; simpa using this)
   go_wp2
   go_ret
   exact ⟨ret_bool hs.out, rfl⟩
def Unl (l : List Int) : Prop := ∀ k z, l[k]? = some z → nodeB z = true ∧ z ∉ l.take k
theorem unl_nil : Unl [] := fun k z h => by simp at h
theorem unl_step {l : List Int} {k : Nat} {z : Int} (h : Unl (l.take k)) (hz : l[k]? = some z) (h1 : nodeB z = true) (h2 : z ∉ l.take k) : Unl (l.take (k + 1)) := by
 intro j u hu
 have hj : j < k + 1 := by
  have := (List.getElem?_eq_some_iff.1 hu).1
  rw [List.length_take] at this; omega
 rw [List.getElem?_take_of_lt hj] at hu
 rw [List.take_take, Nat.min_eq_left (by omega)]
 rcases Nat.lt_or_ge j k with hlt | hge
 ·have := h j u (by rw [List.getElem?_take_of_lt hlt]; exact hu)
  rw [List.take_take, Nat.min_eq_left (by omega)] at this
  exact this
 ·obtain rfl : j = k := by omega
  rw [hz] at hu
  injection hu with hu
  subst hu
  exact ⟨h1, h2⟩
theorem unl_not_node {l : List Int} {k : Nat} {z : Int} (hz : l[k]? = some z) (h1 : nodeB z = false) : ¬ Unl l := fun h => by
 rw [(h k z hz).1] at h1; cases h1
theorem unl_not_twice {l : List Int} {k : Nat} {z : Int} (hz : l[k]? = some z) (h1 : z ∈ l.take k) : ¬ Unl l := fun h => (h k z hz).2 h1
open Classical in
noncomputable def unlikeB (l : List Int) : Bool := decide (Unl l)
theorem unlikeB_iff (l : List Int) : unlikeB l = true ↔ Unl l := by unfold unlikeB; simp
theorem unlikeB_no {l : List Int} (h : ¬ Unl l) : false = unlikeB l := by unfold unlikeB; simp [h]
theorem unlike_any (A : Option Addr) (n c B : Nat) (zs : List Int) (w : World) (hr : Reads w B 1 A n (zs.map (Value.int .i64))) (hn : n ≤ c) (hc : c ≤ maxLen) :
  Calls Tryz.prog 233 #[.slice A n c] w fun e w' => e = .returned (.bool (unlikeB zs)) ∧ w = w' := by
 unfold maxLen at hc
 have HR := Lib.hid hr
 have HL : Hid (zs.length = n) := Lib.hid (by have := hr.1; simpa using this)
 clear hr
 go_enter Tryz.func233, Tryz.ntmps233
 go_wp2
 go_loop [3, 4, 7] (fun _ _ i => ∃ k : Nat, k ≤ n ∧ i = .int .i64 k ∧ Hid (Unl (zs.take k))) (fun _ _ i => n - (intOf i).toNat)
 case atStart => exact ⟨0, by omega, rfl, Lib.hid (by simpa using unl_nil)⟩
 case round =>
  obtain ⟨k, hk, rfl, hno⟩ := hrel
  by_cases hlt : k < n
  ·obtain ⟨ad, z, rfl, _, hz, hcell⟩ := reads_int HR.out hlt
   have HZ := Lib.hid hz
   clear hz
   have hlt' : (k : Int) < n := by omega
   cases hN : nodeB z
   ·have hi := Lib.hid (unlikeB_no (unl_not_node HZ.out hN))
    have HN := Lib.hid hN
    go_wp2_with (first | (go_at_call 291; refine (cnode_any z _).mono ?_; rintro e w' ⟨rfl, rfl⟩) | fail)
    go_ret
    exact ⟨ret_bool hi.out, rfl⟩
   ·have HN := Lib.hid hN
    have HT : Hid (Reads w B 1 (some ad) k ((zs.take k).map (Value.int .i64))) := Lib.hid (by
     have := HR.out.take (k := k) (by omega)
     rwa [← List.map_take] at this)
    by_cases hm : z ∈ zs.take k
    ·have hd : decide (z ∈ zs.take k) = true := by simp [hm]
     have hi := Lib.hid (unlikeB_no (unl_not_twice HZ.out hm))
     clear hm
     go_wp2_with (first | (go_at_call 291; refine (cnode_any z _).mono ?_; rintro e w' ⟨rfl, rfl⟩) | (go_at_call 292; refine (contains_any (some ad) k c B (zs.take k) z _ HT.out (by unfold maxLen; omega)).mono ?_; rintro e w' ⟨rfl, rfl⟩) | fail)
     go_ret
     exact ⟨ret_bool hi.out, rfl⟩
    ·have hd : decide (z ∈ zs.take k) = false := by simp [hm]
     have hi := Lib.hid (unl_step hno.out HZ.out HN.out hm)
     clear hm
     go_wp2_with (first | (go_at_call 291; refine (cnode_any z _).mono ?_; rintro e w' ⟨rfl, rfl⟩) | (go_at_call 292; refine (contains_any (some ad) k c B (zs.take k) z _ HT.out (by unfold maxLen; omega)).mono ?_; rintro e w' ⟨rfl, rfl⟩) | fail)
     go_round
     case rel => exact ⟨k + 1, by omega, by go_num, hi⟩
     case measure => simp [intOf]; omega
  ·have hs : Hid (true = unlikeB zs) := Lib.hid (by
    have := hno.out
    rw [List.take_of_length_le (by rw [HL.out]; omega)] at this
    exact ((unlikeB_iff zs).2 this).symm)
   go_wp2
   go_ret
   exact ⟨ret_bool hs.out, rfl⟩
end Go.Proofs.YtmpedblelnpjdaaGreatDoor
/- Contracts: Clone, everybody, Stands, Unlike, both Right. -/
namespace Go.Proofs.YtmpedblelnpjdaaGreatDoor
open Go.RowKit
set_option maxRecDepth 100000
set_option linter.unusedSimpArgs false
set_option linter.unusedVariables false
set_option maxHeartbeats 1000000
theorem clone_int (A : Option Addr) (n c B : Nat) (b : List Int) (w : World) (hB : B ≤ w.heap.size) (hr : Reads w B 1 A n (b.map (Value.int .i64))) (hn : n ≤ 1000000000) :
  Calls Tryz.prog 290 #[.slice A n c] w fun e w' => ∃ v, e = .returned v ∧ w'.ownsRow w.heap.size 3 1 v n (b.map (Value.int .i64)) ∧ Below w.heap.size w w' := by
 obtain ⟨i0, hi, hz0, hz1, hz2⟩ := info_parts i64Info
 have HR := Lib.hid hr
 have hnil := fun w => Lib.run_eql_slice_nil (P := Tryz.prog) w 31 3 A n c 0 0 Tryz.underlying31
 rcases A with _ | ad
 ·have h0 : n = 0 := by
   rcases Nat.eq_zero_or_pos n with h | h
   ·exact h
   ·obtain ⟨ad, h, _⟩ := hr.2 h; cases h
  subst h0
  have hb0 : b = [] := by have := hr.1; simpa using this
  subst hb0
  clear hr
  go_enter Tryz.func290, Tryz.ntmps290
  go_wp2
  go_ret
  exact ⟨_, rfl, World.ownsRow_nil _ _ _ _, Below.refl _ _⟩
 ·clear hr
  go_enter Tryz.func290, Tryz.ntmps290
  go_wp2_with (at_builtin; go_must (refine wpList_append_any _ rfl (.tmp 5) (.tmp 6) _ rfl w.heap.size 3 i0 _ 1 8 Tryz.underlying31 hi hz0 hz1 hz2 rfl (by omega) _ _ _ rfl (World.ownsRow_made w #[] 0 (Nat.le_refl _) (by decide) rfl) B (some ad) n c (b.map (Value.int .i64)) rfl (Reads.alloc HR.out hB _) ?c1 ?c2 ?c3 ?c4 ?_))
  case c1 => exact i64_one b
  case c2 => unfold maxLen; omega
  case c3 => omega
  case c4 => simp
  exact rp75
theorem own_mono {w : World} {base base' : Nat} {e : TypeId} {size : Nat} {v : Value} {n : Nat} {xs : List Value} (h : w.ownsRow base e size v n xs) (hb : base' ≤ base) : w.ownsRow base' e size v n xs := by
 refine ⟨h.1, ?_⟩
 rcases h.2 with h2 | ⟨g, cap, cur, h1, h2, h3⟩
 ·exact .inl h2
 ·exact .inr ⟨g, cap, cur, h1, by omega, h3⟩
structure Cf where
 ch : Int
 ep : Nat
 A : Option Addr
 len : Nat
 cap : Nat
 fr : Bool
 jn : Int
 zs : List Int
def Cf.agg (x : Cf) : Value := .agg #[.int .i64 x.ch, .int .u64 x.ep, .slice x.A x.len x.cap, .bool x.fr, .int .i64 x.jn]
def Cf.cells (x : Cf) : Array Value := #[.int .i64 x.ch, .int .u64 x.ep, .slice x.A x.len x.cap, .bool x.fr, .int .i64 x.jn]
structure CfIn (w : World) (B : Nat) (x : Cf) : Prop where
 rd : Reads w B 1 x.A x.len (x.zs.map (Value.int .i64))
 hc : x.len ≤ x.cap
 hm : x.cap ≤ maxLen
theorem CfIn.below {w w' : World} {B : Nat} {x : Cf} (h : CfIn w B x) (hb : Below B w w') : CfIn w' B x := ⟨h.rd.below hb, h.hc, h.hm⟩
theorem CfIn.alloc {w : World} {B : Nat} {x : Cf} (h : CfIn w B x) (hB : B ≤ w.heap.size) (o : Obj) : CfIn (w.alloc o) B x := ⟨h.rd.alloc hB o, h.hc, h.hm⟩
theorem CfIn.drewN {w : World} {B : Nat} {x : Cf} (h : CfIn w B x) (k : Nat) : CfIn (w.drewN k) B x := ⟨h.rd, h.hc, h.hm⟩
theorem CfIn.len_eq {w : World} {B : Nat} {x : Cf} (h : CfIn w B x) : x.zs.length = x.len := by have := h.rd.1; simpa using this
def Cf.stands (x : Cf) : List Int := x.zs ++ if x.jn = 0 then [] else [x.jn]
def Cf.fine (x : Cf) : Prop := (0 ≤ x.ch ∧ x.ch < 4) ∧ 1 ≤ x.ep ∧ (1 ≤ x.len ∧ x.len ≤ 5) ∧ (x.fr = true → 2 ≤ x.len ∧ x.jn = 0)
instance (x : Cf) : Decidable x.fine := by unfold Cf.fine; exact inferInstance
noncomputable def Cf.right (x : Cf) : Bool := decide x.fine && unlikeB x.stands
theorem Cf.right_no {x : Cf} (h : ¬ x.fine) : false = x.right := by unfold Cf.right; simp [h]
theorem Cf.right_yes {x : Cf} (h : x.fine) : unlikeB x.stands = x.right := by unfold Cf.right; simp [h]
theorem cf_cells {w : World} {g : Nat} {t : TypeId} {x : Cf} (h : Blk w g t x.cells) : w.cell? ⟨g, 0, none⟩ = some (.int .i64 x.ch) ∧ w.cell? ⟨g, 1, none⟩ = some (.int .u64 x.ep) ∧ w.cell? ⟨g, 2, none⟩ = some (.slice x.A x.len x.cap) ∧ w.cell? ⟨g, 3, none⟩ = some (.bool x.fr) ∧ w.cell? ⟨g, 4, none⟩ = some (.int .i64 x.jn) := by
 refine ⟨?_, ?_, ?_, ?_, ?_⟩ <;> (rw [h.cell]; rfl)
attribute [local go_sem] Cf.agg Cf.cells
theorem stands_any (x : Cf) (B : Nat) (w : World) (hx : CfIn w B x) (hB : B ≤ w.heap.size) (hn : x.len ≤ 1000000) :
  Calls Tryz.prog 149 #[x.agg] w fun e w' => ∃ v, e = .returned v ∧ w'.ownsRow w.heap.size 3 1 v x.stands.length (x.stands.map (Value.int .i64)) ∧ Below w.heap.size w w' := by
 obtain ⟨i0, hi, hz0, hz1, hz2⟩ := info_parts i64Info
 have HX := Lib.hid hx
 have HL := Lib.hid hx.len_eq
 clear hx
 by_cases hj : x.jn = 0
 ·have hj' : (x.jn != 0) = false := by simp [hj]
  have HS : Hid (x.zs = x.stands) := Lib.hid (by simp [Cf.stands, hj])
  clear hj
  go_enter Tryz.func149, Tryz.ntmps149
  go_wp2_with (at_builtin; go_must (refine wpList_append_any _ rfl _ (.tmp 5) _ rfl w.heap.size 3 i0 _ 1 8 Tryz.underlying31 hi hz0 hz1 hz2 rfl (by omega) _ _ _ rfl (World.ownsRow_nil _ _ _ _) B x.A x.len x.cap (x.zs.map (Value.int .i64)) rfl (HX.out.rd.alloc hB _) ?c1 ?c2 ?c3 ?c4 ?_))
  case c1 => exact i64_one _
  case c2 => unfold maxLen; omega
  case c3 => omega
  case c4 => simp
  intro v1 w1 hown hg hat
  have hbl : Below w.heap.size w w1 := ((Below.refl _ _).alloc (Nat.le_refl _) _).grown hg (by simp) (fun k hk => by simp [Value.ownBlock] at hk)
  obtain ⟨c0, c1, c2, c3, c4⟩ := cf_cells (x := x) ((Blk.new w 33 x.cells).grown hg (by simp [Value.ownBlock]))
  obtain ⟨A1, cc1, rfl, _, _, _⟩ := own_slice hown
  have HO := Lib.hid hown
  have HB := Lib.hid hbl
  clear hown hg hat hbl
  go_wp2
  go_ret
  exact ⟨_, rfl, by rw [← HS.out, HL.out]; simpa using HO.out, HB.out⟩
 ·have hj' : (x.jn != 0) = true := by simp [hj]
  have HS : Hid (x.zs ++ [x.jn] = x.stands) := Lib.hid (by simp [Cf.stands, hj])
  clear hj
  go_enter Tryz.func149, Tryz.ntmps149
  go_wp2_with (at_builtin; go_must (refine wpList_append_any _ rfl _ (.tmp 5) _ rfl w.heap.size 3 i0 _ 1 8 Tryz.underlying31 hi hz0 hz1 hz2 rfl (by omega) _ _ _ rfl (World.ownsRow_nil _ _ _ _) B x.A x.len x.cap (x.zs.map (Value.int .i64)) rfl (HX.out.rd.alloc hB _) ?c1 ?c2 ?c3 ?c4 ?_))
  case c1 => exact i64_one _
  case c2 => unfold maxLen; omega
  case c3 => omega
  case c4 => simp
  intro v1 w1 hown hg hat
  have hbl : Below w.heap.size w w1 := ((Below.refl _ _).alloc (Nat.le_refl _) _).grown hg (by simp) (fun k hk => by simp [Value.ownBlock] at hk)
  have hbk := (Blk.new w 33 x.cells).grown hg (by simp [Value.ownBlock])
  obtain ⟨c0, c1, c2, c3, c4⟩ := cf_cells (x := x) hbk
  have hlt := hbk.lt
  obtain ⟨A1, cc1, rfl, _, _, _⟩ := own_slice hown
  have HO := Lib.hid hown
  have HB := Lib.hid hbl
  clear hown hg hat hbl hbk
  go_wp2_with (at_builtin; go_must (refine wpList_append_own _ rfl (.tmp 10) (.tmp 13) _ rfl w.heap.size 3 i0 _ 1 8 Tryz.underlying31 hi hz0 hz1 hz2 rfl (by omega) _ _ _ rfl (HO.out.alloc _) ⟨w1.heap.size, 0, none⟩ 1 1 [.int .i64 x.jn] rfl rfl ?d1 ?d2 ?d3 ?d4 ?d5 ?_))
  case d1 => exact fun j u hu => cells_new_at _ _ _ _ (by simp) j u hu
  case d2 => intro u hu; simp at hu; subst hu; rfl
  case d3 => unfold maxLen; omega
  case d4 => omega
  case d5 => simp; have := HB.out.size; omega
  intro v2 w2 hown hg hat
  have hbl : Below w.heap.size w w2 := (HB.out.alloc (by exact HB.out.size) _).grown hg (by simp; have := HB.out.size; omega) (fun k hk => (HO.out.lt k hk).1)
  have H2 := Lib.hid hown
  have HB2 := Lib.hid hbl
  clear hown hg hat hbl
  go_wp2
  go_ret
  exact ⟨_, rfl, by rw [← HS.out, List.length_append, HL.out]; simpa using H2.out, HB2.out⟩
theorem cell_app {w6 W w8 : World} {p : Addr} {u v : Value} (h : w6.cell? p = some u) (hp : p.block < w6.heap.size) (hb : Below w6.heap.size w6 W) (hg : W.grownBy w8 v.ownBlock) (ho : ∀ k, v.ownBlock = some k → p.block < k) : w8.cell? p = some u :=
 (World.cell?_of_block (hg.block p.block (Nat.lt_of_lt_of_le hp hb.size) (fun e => by have := ho _ e.symm; omega))).trans ((hb.cell hp).trans h)
theorem app_below {B : Nat} {w w0 W0 w6 W w8 : World} {v : Value} (h0 : Below B w w0) (hB : B ≤ w0.heap.size) (b1 : Below w0.heap.size w0 W0) (b2 : Below W0.heap.size W0 w6) (b3 : Below w6.heap.size w6 W) (hg : W.grownBy w8 v.ownBlock) (ho : ∀ k, v.ownBlock = some k → B ≤ k) : Below B w w8 := by
 have s1 := b1.size
 have s2 := b2.size
 have s3 := b3.size
 exact (((h0.trans (b1.mono hB)).trans (b2.mono (by omega))).trans (b3.mono (by omega))).grown hg (by omega) ho
theorem everybody_any (x : Cf) (B : Nat) (w : World) (hx : CfIn w B x) (hB : B ≤ w.heap.size) (hn : x.len ≤ 1000000) :
  Calls Tryz.prog 232 #[x.agg] w fun e w' => ∃ v, e = .returned v ∧ w'.ownsRow w.heap.size 3 1 v x.stands.length (x.stands.map (Value.int .i64)) ∧ Below w.heap.size w w' := by
 obtain ⟨i0, hi, hz0, hz1, hz2⟩ := info_parts i64Info
 have HX := Lib.hid hx
 have HL := Lib.hid hx.len_eq
 clear hx
 by_cases hj : x.jn = 0
 ·have hj' : (x.jn == 0) = true := by simp [hj]
  have HS : Hid (x.zs = x.stands) := Lib.hid (by simp [Cf.stands, hj])
  clear hj
  go_enter Tryz.func232, Tryz.ntmps232
  go_wp2_with (fail)
  refine (clone_int x.A x.len x.cap B x.zs _ (by simp; omega) (HX.out.rd.alloc hB _) (by omega)).mono ?_
  rintro e w1 ⟨v, rfl, h1, h2⟩
  have H1 := Lib.hid h1
  have H2 := Lib.hid h2
  clear h1 h2
  go_wp2
  go_ret
  exact ⟨_, rfl, by rw [← HS.out, HL.out]; exact own_mono H1.out (by simp), ((Below.refl _ _).alloc (Nat.le_refl _) _).trans (H2.out.mono (by simp))⟩
 ·have hj' : (x.jn == 0) = false := by simp [hj]
  have HS : Hid (x.zs ++ [x.jn] = x.stands) := Lib.hid (by simp [Cf.stands, hj])
  clear hj
  go_enter Tryz.func232, Tryz.ntmps232
  go_wp2_with (fail)
  have q2 : (w.alloc (.cells x.cells 33)).cell? ⟨w.heap.size, 2, none⟩ = some (.slice x.A x.len x.cap) := (cf_cells (Blk.new w _ x.cells)).2.2.1
  have q4 : (w.alloc (.cells x.cells 33)).cell? ⟨w.heap.size, 4, none⟩ = some (.int .i64 x.jn) := (cf_cells (Blk.new w _ x.cells)).2.2.2.2
  have q5 : w.heap.size < (w.alloc (.cells x.cells 33)).heap.size := by simp
  have HB0 : Hid (Below w.heap.size w (w.alloc (.cells x.cells 33))) := Lib.hid ((Below.refl _ _).alloc (Nat.le_refl _) _)
  have HR : Hid (Reads (w.alloc (.cells x.cells 33)) B 1 x.A x.len (x.zs.map (Value.int .i64))) := Lib.hid (HX.out.rd.alloc hB _)
  unfold Cf.cells at *
  generalize w.alloc (.cells #[.int .i64 x.ch, .int .u64 x.ep, .slice x.A x.len x.cap, .bool x.fr, .int .i64 x.jn] 33) = w0 at *
  go_region_held3 (fun w' => w'.cell? ⟨w.heap.size, 2, none⟩ = some (.slice x.A x.len x.cap) ∧ w'.cell? ⟨w.heap.size, 4, none⟩ = some (.int .i64 x.jn)) (go_keep) (first
   | (go_at_call 290; refine (clone_int x.A x.len x.cap B x.zs _ ?_ ?_ (by omega)).mono ?_; (· first | omega | (simp; omega)); (· repeat (first | with_reducible refine Reads.alloc ?_ (by first | omega | (simp; omega)) _ | with_reducible refine Reads.drewN ?_ _ | with_reducible refine Reads.drew ?_ | with_reducible exact HR.out)); rintro e w6 ⟨v, rfl, h1, h2⟩; obtain ⟨A1, cc1, rfl, _, _, _⟩ := own_slice h1; have HO := Lib.hid h1; have HB6 := Lib.hid h2; replace q2 := cell_relay q2 q5 h2 (by repeat (first | with_reducible exact Below.refl _ _ | with_reducible refine Below.alloc ?_ (by simp <;> omega) _ | with_reducible refine below_drewN ?_ _ | with_reducible refine Below.drew ?_)); replace q4 := cell_relay q4 q5 h2 (by repeat (first | with_reducible exact Below.refl _ _ | with_reducible refine Below.alloc ?_ (by simp <;> omega) _ | with_reducible refine below_drewN ?_ _ | with_reducible refine Below.drew ?_)))
   | (refine step_append_any _ ?_ (.tmp 11) (.tmp 14) 31 ?_ w0.heap.size 3 i0 (.int .i64 0) 1 8 Tryz.underlying31 hi hz0 hz1 hz2 rfl (by omega) (.slice A1 x.len cc1) x.len (x.zs.map (Value.int .i64)) ?_ ?_ (w6.heap.size + 1) (some ⟨w6.heap.size, 0, none⟩) 1 1 [.int .i64 x.jn] ?_ ?_ ?_ ?_ ?_ ?_ ?_; (· rfl); (· rfl); (· rfl); (· exact own_mono (World.ownsRow.alloc HO.out _) (by simp)); (· rfl); (· refine ⟨rfl, fun _ => ⟨_, rfl, (by (have := HB6.out.size; try simp at this); simp <;> omega), fun j u hu => ?_⟩⟩; exact cells_new _ _ _ j u hu); (· intro u hu; simp at hu; subst hu; rfl); (· unfold maxLen; omega); (· omega); (· (have := HB6.out.size; try simp at this); first | omega | (simp; omega)); intro v8 w8 g1 g2 g3; have HO8 := Lib.hid g1; have HB8 := Lib.hid (app_below HB0.out (Nat.le_of_lt q5) (by repeat (first | with_reducible exact Below.refl _ _ | with_reducible refine Below.alloc ?_ (by simp <;> omega) _ | with_reducible refine below_drewN ?_ _ | with_reducible refine Below.drew ?_)) HB6.out (by repeat (first | with_reducible exact Below.refl _ _ | with_reducible refine Below.alloc ?_ (by simp <;> omega) _ | with_reducible refine below_drewN ?_ _ | with_reducible refine Below.drew ?_)) g2 (fun k hk => by (have := (HO.out.lt k hk).1; try simp at this); omega)); replace q2 := cell_app q2 (by (have := HB6.out.size; try simp at this); show w.heap.size < _; omega) (by repeat (first | with_reducible exact Below.refl _ _ | with_reducible refine Below.alloc ?_ (by simp <;> omega) _ | with_reducible refine below_drewN ?_ _ | with_reducible refine Below.drew ?_)) g2 (fun k hk => by (have := (HO.out.lt k hk).1; try simp at this); show w.heap.size < k; omega); replace q4 := cell_app q4 (by (have := HB6.out.size; try simp at this); show w.heap.size < _; omega) (by repeat (first | with_reducible exact Below.refl _ _ | with_reducible refine Below.alloc ?_ (by simp <;> omega) _ | with_reducible refine below_drewN ?_ _ | with_reducible refine Below.drew ?_)) g2 (fun k hk => by (have := (HO.out.lt k hk).1; try simp at this); show w.heap.size < k; omega); clear g1 g2 g3)
   | (refine step_append_any _ ?_ (.tmp 11) (.tmp 14) 31 ?_ w0.heap.size 3 i0 (.int .i64 0) 1 8 Tryz.underlying31 hi hz0 hz1 hz2 rfl (by omega) (.slice A1 x.len cc1) x.len (x.zs.map (Value.int .i64)) ?_ ?_ (w6.heap.size + 1) (some ⟨w0.heap.size, 0, none⟩) 1 1 [.int .i64 x.jn] ?_ ?_ ?_ ?_ ?_ ?_ ?_; (· rfl); (· rfl); (· rfl); (· exact own_mono HO.out (by simp)); (· rfl); (· refine ⟨rfl, fun _ => ⟨_, rfl, (by (have := HB6.out.size; try simp at this); simp <;> omega), fun j u hu => ?_⟩⟩; exact (HB6.out.cell (by simp [block_of_add])).trans (cells_new w0 #[.int .i64 x.jn] 3 j u hu)); (· intro u hu; simp at hu; subst hu; rfl); (· unfold maxLen; omega); (· omega); (· (have := HB6.out.size; try simp at this); first | omega | (simp; omega)); intro v8 w8 g1 g2 g3; have HO8 := Lib.hid g1; have HB8 := Lib.hid (app_below HB0.out (Nat.le_of_lt q5) (by repeat (first | with_reducible exact Below.refl _ _ | with_reducible refine Below.alloc ?_ (by simp <;> omega) _ | with_reducible refine below_drewN ?_ _ | with_reducible refine Below.drew ?_)) HB6.out (by repeat (first | with_reducible exact Below.refl _ _ | with_reducible refine Below.alloc ?_ (by simp <;> omega) _ | with_reducible refine below_drewN ?_ _ | with_reducible refine Below.drew ?_)) g2 (fun k hk => by (have := (HO.out.lt k hk).1; try simp at this); omega)); replace q2 := cell_app q2 (by (have := HB6.out.size; try simp at this); show w.heap.size < _; omega) (by repeat (first | with_reducible exact Below.refl _ _ | with_reducible refine Below.alloc ?_ (by simp <;> omega) _ | with_reducible refine below_drewN ?_ _ | with_reducible refine Below.drew ?_)) g2 (fun k hk => by (have := (HO.out.lt k hk).1; try simp at this); show w.heap.size < k; omega); replace q4 := cell_app q4 (by (have := HB6.out.size; try simp at this); show w.heap.size < _; omega) (by repeat (first | with_reducible exact Below.refl _ _ | with_reducible refine Below.alloc ?_ (by simp <;> omega) _ | with_reducible refine below_drewN ?_ _ | with_reducible refine Below.drew ?_)) g2 (fun k hk => by (have := (HO.out.lt k hk).1; try simp at this); show w.heap.size < k; omega); clear g1 g2 g3) | fail)
  all_goals
   obtain ⟨A8, cc8, rfl, _, _, _⟩ := own_slice HO8.out
   go_wp2
   go_ret
   exact ⟨_, rfl, by rw [← HS.out, List.length_append, HL.out]; simpa using own_mono HO8.out (Nat.le_of_lt q5), HB8.out⟩
theorem everybody_at (x : Cf) (B : Nat) (w : World) (v : Value) (hv : v = x.agg) (hx : CfIn w B x) (hB : B ≤ w.heap.size) (hn : x.len ≤ 1000000) :
  Calls Tryz.prog 232 #[v] w fun e w' => ∃ v, e = .returned v ∧ w'.ownsRow w.heap.size 3 1 v x.stands.length (x.stands.map (Value.int .i64)) ∧ Below w.heap.size w w' := by
 subst hv; exact everybody_any x B w hx hB hn
theorem stands_at (x : Cf) (B : Nat) (w : World) (v : Value) (hv : v = x.agg) (hx : CfIn w B x) (hB : B ≤ w.heap.size) (hn : x.len ≤ 1000000) :
  Calls Tryz.prog 149 #[v] w fun e w' => ∃ v, e = .returned v ∧ w'.ownsRow w.heap.size 3 1 v x.stands.length (x.stands.map (Value.int .i64)) ∧ Below w.heap.size w w' := by
 subst hv; exact stands_any x B w hx hB hn
theorem refUnlike_any (A : Option Addr) (n c B : Nat) (zs : List Int) (w : World) (hr : Reads w B 1 A n (zs.map (Value.int .i64))) (hn : n ≤ c) (hc : c ≤ maxLen) :
  Calls Tryz.prog 150 #[.slice A n c] w fun e w' => e = .returned (.bool (unlikeB zs)) ∧ Below w.heap.size w w' := by
 unfold maxLen at hc
 have HR := Lib.hid hr
 have HL : Hid (zs.length = n) := Lib.hid (by have := hr.1; simpa using this)
 clear hr
 go_enter Tryz.func150, Tryz.ntmps150
 go_wp2
 go_loopw [3] (fun i wr => ∃ k m : Nat, k ≤ n ∧ i = .int .i64 k ∧ wr = w.drewN m ∧ Hid (Unl (zs.take k))) (fun i _ => n - (intOf i).toNat)
 case atStart => exact ⟨0, 0, by omega, rfl, rfl, Lib.hid (by simpa using unl_nil)⟩
 case round =>
  obtain ⟨k, m, hk, rfl, rfl, hno⟩ := hrel
  by_cases hlt : k < n
  ·obtain ⟨ad, z, rfl, _, hz, hcell⟩ := reads_int HR.out hlt
   have HZ := Lib.hid hz
   clear hz
   have hlt' : (k : Int) < n := by omega
   have hkn' : (k : Int) ≤ n := by omega
   have hkc' : (k : Int) ≤ c := by omega
   have hk0' : (0 : Int) ≤ k := by omega
   have HT : Hid (Reads w B 1 (some ad) k ((zs.take k).map (Value.int .i64))) := Lib.hid (by
    have := HR.out.take (k := k) (by omega)
    rwa [← List.map_take] at this)
   by_cases h1 : z < 1
   ·have hi := Lib.hid (unlikeB_no (unl_not_node HZ.out (by cases hh : nodeB z; rfl; have := (nodeB_iff z).1 hh; omega)))
    have h1' : decide (z < 1) = true := by simp [h1]
    exact rp54
   ·have h1' : decide (z < 1) = false := by simp; omega
    by_cases h2 : 24 < z
    ·have hi := Lib.hid (unlikeB_no (unl_not_node HZ.out (by cases hh : nodeB z; rfl; have := (nodeB_iff z).1 hh; omega)))
     have h2' : decide (24 < z) = true := by simp [h2]
     exact rp54
    ·have h2' : decide (24 < z) = false := by simp; omega
     have HN : Hid (nodeB z = true) := Lib.hid ((nodeB_iff z).2 (by omega))
     by_cases hm : z ∈ zs.take k
     ·have hd : decide (z ∈ zs.take k) = true := by simp [hm]
      have hi := Lib.hid (unlikeB_no (unl_not_twice HZ.out hm))
      clear hm
      exact rp54
     ·have hd : decide (z ∈ zs.take k) = false := by simp [hm]
      have hi := Lib.hid (unl_step hno.out HZ.out HN.out hm)
      clear hm
      go_wp2_with (fail)
      go_quiet ((go_at_call 235; exact quiet_add_left (refHas_any (some ad) k c B (zs.take k) z _ (HT.out.drewN _) (by unfold maxLen; omega))))
      go_wp2
      go_roundw
      case rel => exact ⟨k + 1, _, by omega, by go_num, rfl, hi⟩
      case measure => simp [intOf]; omega
  ·have hs : Hid (true = unlikeB zs) := Lib.hid (by
    have := hno.out
    rw [List.take_of_length_le (by rw [HL.out]; omega)] at this
    exact ((unlikeB_iff zs).2 this).symm)
   go_wp2
   go_ret
   exact ⟨ret_bool hs.out, below_drewN (Below.refl _ _) _⟩
theorem right_any (x : Cf) (B : Nat) (w : World) (hx : CfIn w B x) (hB : B ≤ w.heap.size) :
  Calls Tryz.prog 231 #[x.agg] w fun e w' => e = .returned (.bool x.right) ∧ Below w.heap.size w w' := by
 have HX := Lib.hid hx
 have hc := hx.hc
 have hm := hx.hm
 unfold maxLen at hm
 clear hx
 by_cases h1 : x.ch < 0
 ·go_enter Tryz.func231, Tryz.ntmps231
  exact rp20
 by_cases h2 : 4 ≤ x.ch
 ·go_enter Tryz.func231, Tryz.ntmps231
  exact rp20
 by_cases h3 : x.ep = 0
 ·have h3' : ((x.ep : Int) < 1) = True := by simp; omega
  go_enter Tryz.func231, Tryz.ntmps231
  exact rp20
 have h3' : ((x.ep : Int) < 1) = False := by simp; omega
 by_cases h4 : x.len < 1
 ·go_enter Tryz.func231, Tryz.ntmps231
  exact rp20
 by_cases h5 : 5 < x.len
 ·go_enter Tryz.func231, Tryz.ntmps231
  exact rp20
 cases hf : x.fr
 ·exact rp42
 by_cases h6 : x.len < 2
 ·go_enter Tryz.func231, Tryz.ntmps231
  exact rp49
 by_cases h7 : x.jn = 0
 ·have h7' : (x.jn != 0) = false := by simp [h7]
  exact rp42
 ·have h7' : (x.jn != 0) = true := by simp [h7]
  go_enter Tryz.func231, Tryz.ntmps231
  exact rp49
theorem refRight_any (x : Cf) (B : Nat) (w : World) (hx : CfIn w B x) (hB : B ≤ w.heap.size) :
  Calls Tryz.prog 138 #[x.agg] w fun e w' => e = .returned (.bool x.right) ∧ Below w.heap.size w w' := by
 have HX := Lib.hid hx
 have hc := hx.hc
 have hm := hx.hm
 unfold maxLen at hm
 clear hx
 by_cases h1 : x.ch < 0
 ·go_enter Tryz.func138, Tryz.ntmps138
  exact rp20
 by_cases h2 : 3 < x.ch
 ·go_enter Tryz.func138, Tryz.ntmps138
  exact rp20
 by_cases h3 : x.ep = 0
 ·have h3' : ((x.ep : Int) == 0) = true := by simp; omega
  go_enter Tryz.func138, Tryz.ntmps138
  exact rp20
 have h3' : ((x.ep : Int) == 0) = false := by simp; omega
 by_cases h4 : x.len < 1
 ·have h4' : ((x.len : Int) == 0) = true := by simp; omega
  go_enter Tryz.func138, Tryz.ntmps138
  exact rp20
 have h4' : ((x.len : Int) == 0) = false := by simp; omega
 by_cases h5 : 5 < x.len
 ·go_enter Tryz.func138, Tryz.ntmps138
  exact rp20
 cases hf : x.fr
 ·exact rp41
 by_cases h6 : x.len < 2
 ·have h6' : ((x.len : Int) == 1) = true := by simp; omega
  go_enter Tryz.func138, Tryz.ntmps138
  exact rp49
 have h6' : ((x.len : Int) == 1) = false := by simp; omega
 by_cases h7 : x.jn = 0
 ·have h7' : (x.jn != 0) = false := by simp [h7]
  exact rp41
 ·have h7' : (x.jn != 0) = true := by simp [h7]
  go_enter Tryz.func138, Tryz.ntmps138
  exact rp49
end Go.Proofs.YtmpedblelnpjdaaGreatDoor
/- Contracts of the small functions of packages ballot and catenaryref07: what each computes, as a plain function of integers. -/
namespace Go.Proofs.YtmpedblelnpjdaaGreatDoor
open Go.RowKit
set_option linter.unusedSimpArgs false
set_option linter.unusedVariables false
def isOf (r who : Int) : Prop := 1 ≤ r ∧ r < 1152921504606846976 ∧ 1 ≤ who ∧ who ≤ 5
instance (r who : Int) : Decidable (isOf r who) := by unfold isOf; infer_instance
def isBal (b : Int) : Bool := decide (isOf (b / 8) (b % 8))
theorem isB_yes (b : Int) (h : isOf (b / 8) (b % 8)) : true = isBal b := by rw [isBal, decide_eq_true h]
theorem isB_no (b : Int) (h : ¬ isOf (b / 8) (b % 8)) : false = isBal b := by rw [isBal, decide_eq_false h]
theorem is_any (b : Int) (w : World) (h0 : 0 ≤ b) (h1 : b < 18446744073709551616) :
  Calls Tryz.prog 192 #[.int .u64 b] w fun e w' => e = .returned (.bool (isBal b)) ∧ w = w' := by
 by_cases a : 1 ≤ b / 8
 all_goals by_cases b1 : b / 8 < 1152921504606846976
 all_goals by_cases c : 1 ≤ b % 8
 all_goals by_cases d : b % 8 ≤ 5
 all_goals first | (exfalso; omega) | skip
 all_goals
  go_enter Tryz.func192, Tryz.ntmps192
  go_wp2
  go_ret
  first
   | exact ⟨ret_bool (isB_yes b (by unfold isOf; omega)), rfl⟩
   | exact ⟨ret_bool (isB_no b (by unfold isOf; omega)), rfl⟩
end Go.Proofs.YtmpedblelnpjdaaGreatDoor
