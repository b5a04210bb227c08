import Derived.Test.YtmpedblelnpjdaaGreatDoorZGA
import Derived.Test.YtmpedblelnpjdaaGreatDoorZTq
import Derived.Test.YtmpedblelnpjdaaGreatDoorZGH
import Derived.Test.YtmpedblelnpjdaaGreatDoorZTk
import Derived.Test.YtmpedblelnpjdaaGreatDoorZGN
import Derived.Test.YtmpedblelnpjdaaGreatDoorZAsA
import Derived.Test.YtmpedblelnpjdaaGreatDoorZCalT
section
/- A region that draws its order: a condition S on the world that is asked only till operation k has come up (k: an append, or a store, behind which what S says is written). A load may be taken first where k waits for it, however far off. -/
namespace Go.Proofs.YtmpedblelnpjdaaGreatDoor
open Go Go.RowKit
section
variable {P : Program} {ops : Array Oper} {Q : Exit → Act → World → Prop} {md : Region.Mode} {S : World → Prop} {k : Nat}
def wpAnyK (P : Program) (md : Region.Mode) (ops : Array Oper) (Q : Exit → Act → World → Prop) (S : World → Prop) (k : Nat) : Nat → Array Bool → Act → World → Prop
 | 0, listed, a, w => Region.ready md ops listed = [] ∧ Q .normal a w
 | fuel + 1, listed, a, w => (Region.ready md ops listed = [] → Q .normal a w) ∧
  ∀ i ∈ Region.ready md ops listed, wpOp P ops Q i (fun a' w' => ((listed.setIfInBounds i true).getD k true = false → S w') ∧ wpAnyK P md ops Q S k fuel (listed.setIfInBounds i true) a' w') a w
theorem wpAny_of_k : ∀ (fuel : Nat) (listed : Array Bool) (a : Act) (w : World), wpAnyK P md ops Q S k fuel listed a w → wpAny P md ops Q fuel listed a w
 | 0, _, _, _, h => h
 | fuel + 1, _, _, _, h => ⟨h.1, fun i hi => wpOp_mono (fun a' w' h' => wpAny_of_k fuel _ a' w' h'.2) (h.2 i hi)⟩
def waits (md : Region.Mode) (ops : Array Oper) (i : Nat) : Nat → Nat → Bool
 | 0, _ => false
 | n + 1, j => match ops[j]? with
  | none => false
  | some o => o.after.any fun e => Region.binds md e && (e.on == i || waits md ops i n e.on)
def closedB (md : Region.Mode) (ops : Array Oper) (listed : Array Bool) : Bool :=
 (List.range ops.size).all fun j => !(listed.getD j false) || match ops[j]? with
  | none => true
  | some o => o.after.all fun e => !(Region.binds md e) || listed.getD e.on false
def Closed (md : Region.Mode) (ops : Array Oper) (listed : Array Bool) : Prop := listed.size = ops.size ∧ ∀ j o, ops[j]? = some o → listed.getD j false = true → ∀ e ∈ o.after, Region.binds md e = true → listed.getD e.on false = true
theorem closed_of {listed : Array Bool} (hs : listed.size = ops.size) (h : closedB md ops listed = true) : Closed md ops listed := by
 refine ⟨hs, fun j o ho hj e he hb => ?_⟩
 have h1 := List.all_eq_true.1 h j (by simpa using (Array.getElem?_eq_some_iff.1 ho).1)
 rw [ho, hj] at h1
 simp only [Bool.not_true, Bool.false_or] at h1
 rw [Array.all_eq_true_iff_forall_mem] at h1
 have := h1 e he
 rw [hb] at this
 simpa using this
theorem getD_tf {listed : Array Bool} {j : Nat} (hj : j < listed.size) (b : Bool) : listed.getD j b = listed.getD j (!b) := by
 simp [Array.getD, hj]
theorem Closed.step {listed : Array Bool} {j : Nat} (h : Closed md ops listed) (hj : j ∈ Region.ready md ops listed) : Closed md ops (listed.setIfInBounds j true) := by
 refine ⟨by simp [h.1], fun i o ho hi e he hb => ?_⟩
 by_cases hij : j = i
 ·subst hij
  obtain ⟨_, o', ho', hall⟩ := mem_ready.1 hj
  obtain rfl : o = o' := Option.some.inj (ho.symm.trans ho')
  exact getD_set_true (hall e he hb)
 ·rw [getD_set_ne false hij] at hi
  exact getD_set_true (h.2 i o ho hi e he hb)
theorem unlisted_of_waits {i : Nat} {listed : Array Bool} (hc : Closed md ops listed) (hi : listed.getD i true = false) :
  ∀ (n j : Nat), waits md ops i n j = true → listed.getD j false = false ∧ j ∉ Region.ready md ops listed := by
 have hi' : listed.getD i false = false := by
  rcases Nat.lt_or_ge i listed.size with h | h
  ·rw [getD_tf h]; exact hi
  ·simp [Array.getD, Nat.not_lt.2 h]
 intro n
 induction n with
 | zero => intro j h; cases h
 | succ n ih =>
  intro j h
  unfold waits at h
  cases ho : ops[j]? with
  | none => rw [ho] at h; cases h
  | some o =>
   rw [ho] at h
   obtain ⟨e, he, hb⟩ := Array.any_eq_true'.1 h
   simp only [Bool.and_eq_true, Bool.or_eq_true, beq_iff_eq] at hb
   have hun : listed.getD e.on false = false := by
    rcases hb.2 with h1 | h1
    ·rw [h1]; exact hi'
    ·exact (ih _ h1).1
   refine ⟨?_, fun hr => ?_⟩
   ·cases hl : listed.getD j false with
    | false => rfl
    | true => rw [hc.2 j o ho hl e he hb.1] at hun; cases hun
   ·obtain ⟨_, o', ho', hall⟩ := mem_ready.1 hr
    obtain rfl : o = o' := Option.some.inj (ho.symm.trans ho')
    rw [hall e he hb.1] at hun; cases hun
theorem wpAnyK_first {i : Nat} {oi : Oper} {v : Value} (hi : ops[i]? = some oi) (hsel : ∀ (j : Nat) (o : Oper) cs b, ops[j]? = some o → o.op ≠ .select cs b)
  (hQ : ∀ c a w, Q (.panic c) (a.put oi.dst v) w → Q (.panic c) a w) (n : Nat) (hw : waits md ops i n k = true) :
  ∀ (fuel : Nat) (listed : Array Bool) (a : Act) (w : World), Closed md ops listed →
   (∀ j oj, ops[j]? = some oj → j ≠ i → listed.getD j true = false → (∀ e ∈ oj.after, Region.binds md e = true → e.on ≠ i) → oi.apart ops oj = true) →
   i ∈ Region.ready md ops listed → YieldsIf P ops S oi v a → S w →
   wpAnyK P md ops Q S k fuel (listed.setIfInBounds i true) (a.put oi.dst v) w → wpAnyK P md ops Q S k (fuel + 1) listed a w := by
 intro fuel
 induction fuel with
 | zero =>
  intro listed a w hc _ hr hy hS H
  refine ⟨fun h => (by rw [h] at hr; cases hr), fun j hj => ?_⟩
  by_cases hji : j = i
  ·subst hji; exact hy.wpOp hi hS ⟨fun _ => hS, H⟩
  ·have := ready_mono hj hji
   rw [H.1] at this
   cases this
 | succ fuel ih =>
  intro listed a w hc hfree hr hy hS H
  refine ⟨fun h => (by rw [h] at hr; cases hr), fun j hj => ?_⟩
  by_cases hji : j = i
  ·subst hji; exact hy.wpOp hi hS ⟨fun _ => hS, H⟩
  ·have h1 := H.2 j (ready_mono hj hji)
   obtain ⟨hjun, oj, hoj, hall⟩ := mem_ready.1 hj
   have hiun := (mem_ready.1 hr).1
   have hnot : ∀ e ∈ oj.after, Region.binds md e = true → e.on ≠ i := fun e he hb heq => by
    have h1 := hall e he hb
    have h0 := hiun
    rw [heq] at h1
    rcases Nat.lt_or_ge i listed.size with h' | h'
    ·simp [h'] at h0 h1; rw [h0] at h1; cases h1
    ·simp [Array.getElem?_eq_none h'] at h1
   have h2 := wpOp_putIf hoj (hfree j oj hoj hji hjun hnot) (fun cs b => hsel i oi cs b hi) (fun cs b => hsel j oj cs b hoj) hQ hy h1
   have hfree' : ∀ k ok, ops[k]? = some ok → k ≠ i → (listed.setIfInBounds j true).getD k true = false →
     (∀ e ∈ ok.after, Region.binds md e = true → e.on ≠ i) → oi.apart ops ok = true := fun k ok hk hki hun hno => by
    refine hfree k ok hk hki ?_ hno
    by_cases hjk : j = k
    ·subst hjk; exact hjun
    ·rw [getD_set_ne true hjk] at hun; exact hun
   have hc' := hc.step hj
   have hr' := ready_mono hr (Ne.symm hji)
   have hkk := unlisted_of_waits hc' (mem_ready.1 hr').1 n k hw
   have hksz : k < ops.size := by
    unfold waits at hw
    cases n with
    | zero => cases hw
    | succ n =>
     simp only at hw
     cases ho : ops[k]? with
     | none => rw [ho] at hw; cases hw
     | some o => exact (Array.getElem?_eq_some_iff.1 ho).1
   have hkun : (listed.setIfInBounds j true).getD k true = false := by
    rw [getD_tf (by rw [hc'.1]; exact hksz)]; exact hkk.1
   have hik : i ≠ k := by
    rintro rfl
    exact hkk.2 hr'
   refine wpOp_mono (fun a' w' h3 => ?_) h2
   have hS' : S w' := h3.2.1 (by
    rw [Array.setIfInBounds_comm _ _ (Ne.symm hji), getD_set_ne true hik]; exact hkun)
   refine ⟨fun _ => hS', ih (listed.setIfInBounds j true) a' w' hc' hfree' hr' h3.1 hS' ?_⟩
   rw [Array.setIfInBounds_comm _ _ hji]
   exact h3.2.2
theorem wpAnyK_take {i n : Nat} {oi : Oper} {v : Value} {fuel : Nat} {listed : Array Bool} {a : Act} {w : World} (hi : ops[i]? = some oi)
  (hs : Region.noSelect ops = true) (hf : Region.free md ops listed i = true) (hr : (Region.ready md ops listed).contains i = true)
  (hz : listed.size = ops.size) (hc : closedB md ops listed = true) (hw : waits md ops i n k = true)
  (hQ : ∀ c a w, Q (.panic c) (a.put oi.dst v) w → Q (.panic c) a w) (hy : YieldsIf P ops S oi v a) (hS : S w)
  (h : wpAnyK P md ops Q S k fuel (listed.setIfInBounds i true) (a.put oi.dst v) w) : wpAnyK P md ops Q S k (fuel + 1) listed a w :=
 wpAnyK_first hi (Region.noSelect_spec hs) hQ n hw fuel listed a w (closed_of hz hc) (Region.free_spec hi hf) (by simpa using hr) hy hS h
theorem wpAnyK_done {listed : Array Bool} {a : Act} {w : World} (hr : Region.ready md ops listed = []) (h : Q .normal a w) : ∀ fuel, wpAnyK P md ops Q S k fuel listed a w
 | 0 => ⟨hr, h⟩
 | _ + 1 => ⟨fun _ => h, by rw [hr]; simp⟩
def AllReadyK (P : Program) (md : Region.Mode) (ops : Array Oper) (Q : Exit → Act → World → Prop) (S : World → Prop) (k fuel : Nat) (listed : Array Bool) (a : Act) (w : World) (rs : List Nat) : Prop :=
 ∀ i ∈ rs, wpOp P ops Q i (fun a' w' => ((listed.setIfInBounds i true).getD k true = false → S w') ∧ wpAnyK P md ops Q S k fuel (listed.setIfInBounds i true) a' w') a w
theorem AllReadyK.nil {fuel : Nat} {listed : Array Bool} {a : Act} {w : World} : AllReadyK P md ops Q S k fuel listed a w [] := fun _ h => by cases h
theorem AllReadyK.cons {fuel : Nat} {listed : Array Bool} {a : Act} {w : World} {i : Nat} {o : Oper} {rs : List Nat} (ho : ops[i]? = some o)
  (h : ∀ K' : Act → World → Prop, Shut (∀ a w, S w → (S w → wpAnyK P md ops Q S k fuel (listed.setIfInBounds i true) a w) → K' a w) → if Region.wanted o (yielded ops a.tmps) = true then Oper.wp P o a w K' Q else K' (a.put o.dst undef) w)
  (hs : AllReadyK P md ops Q S k fuel listed a w rs) : AllReadyK P md ops Q S k fuel listed a w (i :: rs) := fun j hj => by
 rcases List.mem_cons.1 hj with rfl | hj
 ·exact wpOp_step ho (fun K' hK => h K' (fun a w hS hW => hK a w ⟨fun _ => hS, hW hS⟩))
 ·exact hs j hj
theorem AllReadyK.last {fuel : Nat} {listed : Array Bool} {a : Act} {w : World} {i : Nat} {o : Oper} {rs : List Nat} (ho : ops[i]? = some o) (hk : (listed.setIfInBounds i true).getD k true = true)
  (h : ∀ K' : Act → World → Prop, Shut (∀ a w, wpAnyK P md ops Q S k fuel (listed.setIfInBounds i true) a w → K' a w) → if Region.wanted o (yielded ops a.tmps) = true then Oper.wp P o a w K' Q else K' (a.put o.dst undef) w)
  (hs : AllReadyK P md ops Q S k fuel listed a w rs) : AllReadyK P md ops Q S k fuel listed a w (i :: rs) := fun j hj => by
 rcases List.mem_cons.1 hj with rfl | hj
 ·exact wpOp_step ho (fun K' hK => h K' (fun a w hW => hK a w ⟨fun h0 => (by rw [hk] at h0; cases h0), hW⟩))
 ·exact hs j hj
theorem wpAnyK_ready {rs : List Nat} {fuel : Nat} {listed : Array Bool} {a : Act} {w : World} (hr : Region.ready md ops listed = rs) (hne : rs ≠ [])
  (h : AllReadyK P md ops Q S k fuel listed a w rs) : wpAnyK P md ops Q S k (fuel + 1) listed a w :=
 ⟨fun h0 => absurd (hr ▸ h0) hne, hr ▸ h⟩
theorem wp_region_k {id : Nat} (k : Nat) {a : Act} {w : World} (hm : P.follows .mixedOrders = true) (hS : S w.drew)
  (h : S w.drew → wpAnyK P .any ops Q S k ops.size (Array.replicate ops.size false) a w.drew) : (Code.region id ops true).wp P Q a w :=
 wp_region_any hm (wpAny_of_k _ _ _ _ (h hS))
end
end Go.Proofs.YtmpedblelnpjdaaGreatDoor

end
section
/- Lists of letters: the same ones (catenarylaw14.Same). -/
namespace Go.Proofs.YtmpedblelnpjdaaGreatDoor
open Go.RowKit
set_option linter.unusedSimpArgs false
set_option linter.unusedVariables false
set_option maxHeartbeats 8000000
set_option maxRecDepth 100000
def lrow (x : LV) : List Value := x.l.cells.toList
theorem lrow_len (x : LV) : (lrow x).length = 25 := rfl
structure LtsIn (w : World) (B : Nat) (A : Option Addr) (n : Nat) (xs : List LV) : Prop where
 rd : Reads w B 25 A n (xs.flatMap lrow)
 mem : ∀ x ∈ xs, LIn w B x ∧ x.near
theorem LtsIn.below {w w' : World} {B n : Nat} {A : Option Addr} {xs : List LV} (h : LtsIn w B A n xs) (hb : Below B w w') : LtsIn w' B A n xs := ⟨h.rd.below hb, fun x hx => ⟨(h.mem x hx).1.below hb, (h.mem x hx).2⟩⟩
theorem LtsIn.more {w : World} {B B' n : Nat} {A : Option Addr} {xs : List LV} (h : LtsIn w B A n xs) (hb : B ≤ B') : LtsIn w B' A n xs := ⟨h.rd.more hb, fun x hx => ⟨(h.mem x hx).1.more hb, (h.mem x hx).2⟩⟩
theorem LtsIn.nil (w : World) (B : Nat) (A : Option Addr) : LtsIn w B A 0 [] := ⟨Reads.none_, fun x hx => by cases hx⟩
theorem LtsIn.len {w : World} {B n : Nat} {A : Option Addr} {xs : List LV} (h : LtsIn w B A n xs) : xs.length = n := flat_len lrow lrow_len (by omega) h.rd
theorem LtsIn.at_ {w : World} {B n k : Nat} {A : Option Addr} {xs : List LV} (h : LtsIn w B A n xs) (hk : k < n) :
  ∃ b o x, A = some ⟨b, o, none⟩ ∧ b < B ∧ xs[k]? = some x ∧ LIn w B x ∧ x.near ∧ w.rangeAt b (o + k * 25) (lrow x) := by
 obtain ⟨b, o, x, hA, hb, hx, hc⟩ := reads_at lrow lrow_len (by omega) h.rd hk
 exact ⟨b, o, x, hA, hb, hx, (h.mem x (List.mem_of_getElem? hx)).1, (h.mem x (List.mem_of_getElem? hx)).2, hc⟩
theorem exec_load_at {P : Program} {ρ : Operand → Value} {o : Oper} {ty : TypeId} {x : Operand} (ho : o.op = .load ty x) (g k : Nat) (hx : ρ x = .pointer (some ⟨g, k, none⟩)) {L : Value} {w : World}
  (h : (loadVar ty ⟨g, k, none⟩).run P w = .ok L w) : (execOp ρ o).run P w = .ok (.value L) w := by
 unfold execOp
 simp only [ho, hx, Instr.loadAt, Instr.sureAddr, Sem.run_bind, Sem.run_pure, Result.andThen_ok, h]
theorem same14_any (A C : Option Addr) (n c d B D : Nat) (xs ys : List LV) (w : World) (h1 : LtsIn w B A n xs) (h2 : LtsIn w D C n ys) (hv : xs.map LV.val = ys.map LV.val) (hB : B ≤ w.heap.size) (hD : D ≤ w.heap.size) (hn : n ≤ 1000000) :
  Calls Tryz.prog 27 #[.slice A n c, .slice C n d] w fun e w' => e = .returned (.bool true) ∧ Below w.heap.size w w' := by
 have H1 := Lib.hid h1
 have H2 := Lib.hid h2
 have HV := Lib.hid hv
 have hn1 : (n : Int) ≤ 1000000 := by omega
 have HB0 : Hid (Below w.heap.size w w) := Lib.hid (Below.refl _ _)
 clear h1 h2 hv
 go_enter Tryz.func27, Tryz.ntmps27
 go_wp2_with (fail)
 go_loopw [5] (fun i wr => ∃ k : Nat, k ≤ n ∧ i = .int .i64 k ∧ Hid (Below w.heap.size w wr)) (fun i _ => n - (intOf i).toNat)
 case atStart => exact ⟨0, by omega, rfl, HB0⟩
 case round =>
  clear HB0
  obtain ⟨k, hk, rfl, HB⟩ := hrel
  by_cases hlt : k < n
  ·obtain ⟨b1, o1, x, rfl, hb1, hu1, hin1, hnr, p1⟩ := (H1.out.below (HB.out.mono hB)).at_ hlt
   obtain ⟨b2, o2, y, rfl, hb2, hu2, hin2, _, p2⟩ := (H2.out.below (HB.out.mono hD)).at_ hlt
   have hval : x.val = y.val := by
    have h := congrArg (·[k]?) HV.out
    simp only [List.getElem?_map, hu1, hu2, Option.map_some, Option.some.injEq] at h
    exact h
   have hlt' : (k : Int) < n := by omega
   have hsz := HB.out.size
   have hb1 : b1 < wr.heap.size := by omega
   have hb2 : b2 < wr.heap.size := by omega
   have SM := refSameG_any x y wr.heap.size wr.heap.size wr.drew ((hin1.more (by omega)).below ((Below.refl _ _).drew)) ((hin2.more (by omega)).below ((Below.refl _ _).drew)) (Nat.le_refl _) (Nat.le_refl _) hnr
   have hsb : sameB x y = true := decide_eq_true hval
   rw [hsb] at SM
   obtain ⟨X, hX⟩ : ∃ X : Value, X = x.l.agg := ⟨_, rfl⟩
   obtain ⟨Y, hY⟩ : ∃ Y : Value, Y = y.l.agg := ⟨_, rfl⟩
   have hLX : ∀ wq : World, wq.rangeAt b1 (o1 + k * 25) (lrow x) → (loadVar 37 ⟨b1, o1 + k * 25, none⟩).run Tryz.prog wq = .ok X wq := fun wq h => by rw [hX]; exact run_loadVar_mid wq b1 (o1 + k * 25) 37 (lrow x) _ h Tryz.underlying37 rfl ltInfo
   have hLY : ∀ wq : World, wq.rangeAt b2 (o2 + k * 25) (lrow y) → (loadVar 37 ⟨b2, o2 + k * 25, none⟩).run Tryz.prog wq = .ok Y wq := fun wq h => by rw [hY]; exact run_loadVar_mid wq b2 (o2 + k * 25) 37 (lrow y) _ h Tryz.underlying37 rfl ltInfo
   rw [← hX, ← hY] at SM
   have SM := Lib.hid SM
   clear hX hY hin1 hin2 hval hu1 hu2 hsb hnr
   go_upto_region 6 with (fail)
   refine wp_region_held_drew (S := fun wq => wq.rangeAt b1 (o1 + k * 25) (lrow x) ∧ wq.rangeAt b2 (o2 + k * 25) (lrow y)) (by kernel_rfl) ⟨p1, p2⟩ (fun hHeld => ?_)
   refine tkV 0 rfl ?_
   try simp only [Act.put, pS]
   refine tkV 1 rfl ?_
   try simp only [Act.put, pS]
   refine tkV 2 rfl ?_
   try simp only [Act.put, pS]
   refine wpAnyH_take (i := 3) (oi := _) (v := X) rfl (by kernel_rfl) (by kernel_rfl) (by kernel_rfl) (fun _ _ _ h => h) (Or.inl ⟨by rfl, ?_⟩) (by assumption) ?_
   ·exact fun wq hSw => exec_load_at rfl _ _ rfl (hLX wq hSw.1)
   try simp only [Act.put, pS]
   refine tkV 4 rfl ?_
   try simp only [Act.put, pS]
   refine tkV 5 rfl ?_
   try simp only [Act.put, pS]
   refine tkV 6 rfl ?_
   try simp only [Act.put, pS]
   refine wpAnyH_take (i := 7) (oi := _) (v := Y) rfl (by kernel_rfl) (by kernel_rfl) (by kernel_rfl) (fun _ _ _ h => h) (Or.inl ⟨by rfl, ?_⟩) (by assumption) ?_
   ·exact fun wq hSw => exec_load_at rfl _ _ rfl (hLY wq hSw.2)
   try simp only [Act.put, pS]
   refine wpAnyH_ready (rs := [8]) (by kernel_rfl) (by simp) ?_
   refine AllReadyH.cons (o := _) rfl (fun K hK => ?_) AllReadyH.nil
   go_simp
   refine SM.out.mono ?_
   rintro e wz ⟨rfl, hbz⟩
   have hbz2 : Below wr.heap.size wr wz := ((Below.refl wr.heap.size wr).drew).trans hbz
   have HBZ := Lib.hid (HB.out.trans (hbz2.mono hsz))
   (try go_simp)
   refine hK.out _ _ ?_ (fun hHeld => ?_)
   ·exact ⟨fun jj vv hv => (hbz2.cell (p := ⟨b1, o1 + k * 25 + jj, none⟩) hb1).trans (p1 jj vv hv), fun jj vv hv => (hbz2.cell (p := ⟨b2, o2 + k * 25 + jj, none⟩) hb2).trans (p2 jj vv hv)⟩
   clear hK K
   try simp only [Act.put, pS]
   refine tkV 9 rfl ?_
   try simp only [Act.put, pS]
   refine wpAnyH_done (by kernel_rfl) ?_ _
   clear hHeld p1 p2 hLX hLY SM hbz hbz2
   go_wp2_with (fail)
   go_roundw
   case rel => exact ⟨k + 1, by omega, by go_num, HBZ⟩
   case measure => simp [intOf]; omega
  ·obtain rfl : k = n := by omega
   go_wp2_with (fail)
   go_ret
   exact ⟨rfl, HB.out⟩
end Go.Proofs.YtmpedblelnpjdaaGreatDoor

end
section
/- A caller: Tick, with what it says. -/
namespace Go.Proofs.YtmpedblelnpjdaaGreatDoor
open Go.RowKit
set_option linter.unusedSimpArgs false
set_option linter.unusedVariables false
set_option maxHeartbeats 8000000
set_option maxRecDepth 100000
noncomputable def whereVal (c : Cl) (v : CV) : LVal := (LV.mk { Lt.zero with kd := 10, fr := ((200 + c.cl : Nat) : Int), tw := 101 + c.tk.tmod (c.ms : Int), ch := v.1 } [] [] [] []).val
def WhereOf (vs : List CV) (k : Nat) (c : Cl) (x : LVal) : Prop := ∃ v, vs[(chainV k vs.length).toNat]? = some v ∧ x = whereVal c v
def WhereL (vs : List CV) (k : Nat) (c : Cl) (l : Lt) : Prop := ∃ v : CV, vs[(chainV k vs.length).toNat]? = some v ∧ l = { Lt.zero with kd := 10, fr := ((200 + c.cl : Nat) : Int), tw := 101 + c.tk.tmod (c.ms : Int), ch := v.1 }
theorem tmod_small (tk : Int) (m : Nat) (h : 1 ≤ m ∧ m ≤ 5) : -5 < tk.tmod m ∧ tk.tmod m < 5 := by
 have h1 := Int.tmod_lt_of_pos tk (b := (m : Int)) (by omega)
 have h2 := Int.lt_tmod_of_pos tk (b := (m : Int)) (by omega)
 omega
theorem where_tw (c : Cl) (tk : Int) (h : 1 ≤ c.ms ∧ c.ms ≤ 5) : IntKind.i64.wrap (IntKind.i64.wrap (100 + tk.tmod (c.ms : Int)) + 1) = 101 + tk.tmod (c.ms : Int) := by
 have := tmod_small tk c.ms h
 generalize tk.tmod (c.ms : Int) = z at *
 rw [IntKind.wrap_i64, IntKind.wrap_i64]
 omega
theorem where_in {vs : List CV} {k : Nat} {c : Cl} {l : Lt} (hv : VsOk vs) (hcl : c.cl ≤ 6) (hms : 1 ≤ c.ms ∧ c.ms ≤ 5) (h : WhereL vs k c.ticked l) : (∀ (W : World) (B : Nat), LIn W B ⟨l, [], [], [], []⟩ ∧ LV.near ⟨l, [], [], [], []⟩) ∧ WhereOf vs k c.ticked (LV.mk l [] [] [] []).val := by
 obtain ⟨v, h1, rfl⟩ := h
 have hb := (right_bounds (hv v (List.mem_of_getElem? h1)).1).1
 have hb : 0 ≤ v.1 ∧ v.1 < 4 := hb
 have ht := tmod_small c.ticked.tk c.ms hms
 refine ⟨fun W B => ⟨lin_ask ⟨⟨rfl, rfl⟩, ⟨rfl, rfl⟩, ⟨rfl, rfl⟩⟩ ?_ (UpsIn.nil W B) ⟨Nat.le_refl _, Nat.zero_le maxLen⟩, ⟨fun u hu => (by cases hu), Nat.zero_le 1000000, Nat.zero_le 1000000, Nat.zero_le 1000000, Nat.zero_le 1000000⟩⟩, v, h1, rfl⟩
 have e1 : c.ticked.cl = c.cl := rfl
 have e2 : c.ticked.ms = c.ms := rfl
 constructor <;> simp [Lt.zero, e1, e2] <;> omega
def CTickP2 (lo g G h : Nat) (vs : List CV) (c : Cl) (k : Nat) (w : World) (e : Ending) (w' : World) : Prop :=
 CalAt w' lo g G h vs c.ticked ∧ Chg w w' (fun i => i = g) ∧ ((c.st ≠ 1 ∧ e = .returned (.slice none 0 0)) ∨
  (c.st = 1 ∧ ∃ (A : Option Addr) (cp : Nat) (x1 x2 : LV), e = .returned (.slice A 2 cp) ∧ LtsIn w' w'.heap.size A 2 [x1, x2] ∧ AskOf vs k c.ticked x1.val ∧ WhereOf vs k c.ticked x2.val))
theorem calTick2_any (lo g G h : Nat) (vs : List (Int × Int × List Int × Bool × Int)) (c : Cl) (k : Nat) (w : World) (hK : KindsAt w) (a : CalAt w lo g G h vs c) (hlo : lo ≤ w.heap.size) (hKg : ∀ W, Chg w W (fun i => i = g) → KindsAt W) (hk : c.op.key = (k : Int)) (hn : c.op.n ≤ 1000000) (hcl : c.cl ≤ 6) (hms : 1 ≤ c.ms ∧ c.ms ≤ 5) (hnum : c.num ≤ 1000000) (hvs : VsOk vs) :
  Calls Tryz.prog 21 #[.pointer (some ⟨g, 0, none⟩)] w (CTickP2 lo g G h vs c k w) := by
 have hkk : k < 4294967296 := by have := a.ow.key.2; omega
 have c3 : w.cell? ⟨g, 3, none⟩ = some (.int .i64 c.tk) := a.box.cell 3
 have f3 := a.box.frozen 3
 obtain ⟨W1, hW1⟩ : ∃ W1, W1 = w.setCell ⟨g, 3, none⟩ (.int .i64 (wrap64 (c.tk + 1))) := ⟨_, rfl⟩
 have hc1 : Chg w W1 (fun i => i = g) := by rw [hW1]; exact chg_one w ⟨g, 3, none⟩ _
 have ha1 : CalAt W1 lo g G h vs c.ticked := a.move hc1 (by rw [hW1]; exact a.box.set_ 3 _) rfl rfl rfl rfl rfl rfl
 have HA := Lib.hid ha1
 have HC := Lib.hid hc1
 have HK := Lib.hid (hKg W1 hc1)
 have HW1 := Lib.hid hW1
 have BU := Lib.hid (calBusy_any lo g G h vs c.ticked W1 ha1)
 have HKE := Lib.hid hk
 have HVS := Lib.hid hvs
 clear hW1 hc1 ha1 a hK hKg hk
 by_cases hst : c.st = 1
 rotate_left
 ·rw [show (c.ticked.st == 1) = false by simp [Cl.ticked, hst]] at BU
  have HST := Lib.hid hst
  clear hst
  go_enter Tryz.func21, Tryz.ntmps21
  go_upto_region 4 with (fail)
  rw [← HW1.out]
  go_wp2_with (fail)
  refine BU.out.mono ?_
  rintro e w2 ⟨rfl, hb2⟩
  have HA2 := Lib.hid (HA.out.below hb2)
  have HC2 := Lib.hid (HC.out.trans (Chg.of_below hb2 _) (fun _ _ e => e))
  clear hb2 BU
  go_wp2_with (fail)
  go_ret
  exact ⟨HA2.out, HC2.out, .inl ⟨HST.out, rfl⟩⟩
 rw [show (c.ticked.st == 1) = true by simp [Cl.ticked, hst]] at BU
 have HST := Lib.hid hst
 clear hst
 go_enter Tryz.func21, Tryz.ntmps21
 go_upto_region 4 with (fail)
 rw [← HW1.out]
 clear HW1 c3 f3
 go_wp2_with (fail)
 refine BU.out.mono ?_
 rintro e w2 ⟨rfl, hb2⟩
 have HA2 := Lib.hid (HA.out.below hb2)
 have HC2 := Lib.hid (HC.out.trans (Chg.of_below hb2 _) (fun _ _ e => e))
 have HK2 := Lib.hid (HK.out.below hb2)
 clear hb2 BU HA HC HK
 obtain ⟨q, hh, cB, o, hax, hov⟩ := HA2.out.atl
 have OF := Lib.hid (fun W (h9 : Below w2.heap.size w2 W) => atlOf_any lo G q hh cB o k hkk W (hax.below h9))
 obtain ⟨f, hf⟩ : ∃ f : Nat, f = 200 + c.cl := ⟨_, rfl⟩
 have AD := Lib.hid (fun W (h9 : Below w2.heap.size w2 W) => calAddr_any lo g G h vs c.ticked f W (HA2.out.below h9) hf hcl)
 have hz := tick_hdr
 have hfd := fld_ch
 obtain ⟨tk, htk⟩ : ∃ tk, tk = wrap64 (c.tk + 1) := ⟨_, rfl⟩
 have HTK := Lib.hid htk
 have y3 : w2.cell? ⟨g, 3, none⟩ = some (.int .i64 tk) := (HA2.out.box.cell 3).trans (by rw [htk]; rfl)
 have y1 : w2.cell? ⟨g, 1, none⟩ = some (.int .i64 c.ms) := HA2.out.box.cell 1
 have y4 : w2.cell? ⟨g, 4, none⟩ = some (.pointer (some ⟨G, 0, none⟩)) := HA2.out.box.cell 4
 have y6 : w2.cell? ⟨g, 6, none⟩ = some (.int .u32 (k : Int)) := (HA2.out.box.cell 6).trans (by rw [← HKE.out]; rfl)
 have lg := HA2.out.box.lt
 have m0 : (c.ms = 0) = False := by simp; omega
 have HOV : Hid (∀ y : Cf, (o.map Cf.val)[(chainV k o.length).toNat]? = some y.val → y.zs.length = y.len → OneOf vs k y) := Lib.hid (fun y h1 h2 => ⟨by rw [← hov, List.length_map]; exact h1, h2⟩)
 have HFF := Lib.hid hf
 clear hax hov hf htk
 go_upto_region 6 with (fail)
 go_cut [3] (fun v3 wx => ∃ (g3 : Nat) (l : Lt), v3 = .pointer (some ⟨g3, 0, none⟩) ∧ Hid (LetM2 w2 l g3 wx) ∧ Hid (WhereL vs k c.ticked l))
 case first =>
  have HB : Hid (Below w2.heap.size w2 w2.drew) := Lib.hid (Below.refl _ _).drew
  refine wp_region_held_drew (S := fun wq => wq.cell? ⟨g, 1, none⟩ = some (.int .i64 c.ms) ∧ wq.cell? ⟨g, 3, none⟩ = some (.int .i64 tk) ∧ wq.cell? ⟨g, 4, none⟩ = some (.pointer (some ⟨G, 0, none⟩)) ∧ wq.cell? ⟨g, 6, none⟩ = some (.int .u32 (k : Int))) (by kernel_rfl) ⟨y1, y3, y4, y6⟩ (fun hHeld => ?_)
  generalize w2.drew = Vd at *
  refine tkT 0 rfl (v := ?_) ?_ ?_
  rotate_left 1
  ·(intro wq hSw; (try dsimp only at hSw); go_simp; (try with_reducible rfl))
  try simp only [Act.put, pS]
  refine tkT 2 rfl (v := ?_) ?_ ?_
  rotate_left 1
  ·(intro wq hSw; (try dsimp only at hSw); go_simp; (try with_reducible rfl))
  try simp only [Act.put, pS]
  refine tkT 3 rfl (v := ?_) ?_ ?_
  rotate_left 1
  ·(intro wq hSw; (try dsimp only at hSw); go_simp; (try with_reducible rfl))
  try simp only [Act.put, pS]
  refine tkT 4 rfl (v := ?_) ?_ ?_
  rotate_left 1
  ·(intro wq hSw; (try dsimp only at hSw); go_simp; (try with_reducible rfl))
  try simp only [Act.put, pS]
  refine tkT 5 rfl (v := ?_) ?_ ?_
  rotate_left 1
  ·(intro wq hSw; (try dsimp only at hSw); go_simp; (try with_reducible rfl))
  try simp only [Act.put, pS]
  refine tkT 6 rfl (v := ?_) ?_ ?_
  rotate_left 1
  ·(intro wq hSw; (try dsimp only at hSw); go_simp; (try with_reducible rfl))
  try simp only [Act.put, pS]
  refine tkT 7 rfl (v := ?_) ?_ ?_
  rotate_left 1
  ·(intro wq hSw; (try dsimp only at hSw); go_simp; (try with_reducible rfl))
  try simp only [Act.put, pS]
  refine tkT 8 rfl (v := ?_) ?_ ?_
  rotate_left 1
  ·(intro wq hSw; (try dsimp only at hSw); go_simp; (try with_reducible rfl))
  try simp only [Act.put, pS]
  refine tkT 9 rfl (v := ?_) ?_ ?_
  rotate_left 1
  ·(intro wq hSw; (try dsimp only at hSw); go_simp; (try with_reducible rfl))
  try simp only [Act.put, pS]
  refine tkT 10 rfl (v := ?_) ?_ ?_
  rotate_left 1
  ·(intro wq hSw; (try dsimp only at hSw); go_simp; (try with_reducible rfl))
  try simp only [Act.put, pS]
  refine tkT 11 rfl (v := ?_) ?_ ?_
  rotate_left 1
  ·(intro wq hSw; (try dsimp only at hSw); go_simp; (try with_reducible rfl))
  try simp only [Act.put, pS]
  refine tkT 12 rfl (v := ?_) ?_ ?_
  rotate_left 1
  ·(intro wq hSw; (try dsimp only at hSw); go_simp; (try with_reducible rfl))
  try simp only [Act.put, pS]
  refine tkT 13 rfl (v := ?_) ?_ ?_
  rotate_left 1
  ·(intro wq hSw; (try dsimp only at hSw); go_simp; (try with_reducible rfl))
  try simp only [Act.put, pS]
  refine tkT 14 rfl (v := ?_) ?_ ?_
  rotate_left 1
  ·(intro wq hSw; (try dsimp only at hSw); go_simp; (try with_reducible rfl))
  try simp only [Act.put, pS]
  refine tkT 15 rfl (v := ?_) ?_ ?_
  rotate_left 1
  ·(intro wq hSw; (try dsimp only at hSw); go_simp; (try with_reducible rfl))
  try simp only [Act.put, pS]
  refine tkT 16 rfl (v := ?_) ?_ ?_
  rotate_left 1
  ·(intro wq hSw; (try dsimp only at hSw); go_simp; (try with_reducible rfl))
  try simp only [Act.put, pS]
  refine tkT 17 rfl (v := ?_) ?_ ?_
  rotate_left 1
  ·(intro wq hSw; (try dsimp only at hSw); go_simp; (try with_reducible rfl))
  try simp only [Act.put, pS]
  refine tkT 18 rfl (v := ?_) ?_ ?_
  rotate_left 1
  ·(intro wq hSw; (try dsimp only at hSw); go_simp; (try with_reducible rfl))
  try simp only [Act.put, pS]
  refine tkT 19 rfl (v := ?_) ?_ ?_
  rotate_left 1
  ·(intro wq hSw; (try dsimp only at hSw); go_simp; (try with_reducible rfl))
  try simp only [Act.put, pS]
  refine tkT 20 rfl (v := ?_) ?_ ?_
  rotate_left 1
  ·(intro wq hSw; (try dsimp only at hSw); go_simp; (try with_reducible rfl))
  try simp only [Act.put, pS]
  refine tkT 21 rfl (v := ?_) ?_ ?_
  rotate_left 1
  ·(intro wq hSw; (try dsimp only at hSw); go_simp; (try with_reducible rfl))
  try simp only [Act.put, pS]
  refine wpAnyH_ready (rs := [1, 25]) (by kernel_rfl) (by simp) ?_
  refine (AllReadyH.cons rfl (fun K hK => ?_) (AllReadyH.cons rfl (fun K hK => ?_) AllReadyH.nil))
  ·go_simp
   refine (AD.out _ HB.out).mono ?_
   rintro e x9 ⟨rfl, rfl⟩
   have HS : Vd.cell? ⟨g, 1, none⟩ = some (.int .i64 c.ms) ∧ Vd.cell? ⟨g, 3, none⟩ = some (.int .i64 tk) ∧ Vd.cell? ⟨g, 4, none⟩ = some (.pointer (some ⟨G, 0, none⟩)) ∧ Vd.cell? ⟨g, 6, none⟩ = some (.int .u32 (k : Int)) := ⟨(HA2.out.below HB.out).box.cell 1, ((HA2.out.below HB.out).box.cell 3).trans (by rw [HTK.out]; rfl), (HA2.out.below HB.out).box.cell 4, ((HA2.out.below HB.out).box.cell 6).trans (by rw [← HKE.out]; rfl)⟩
   refine hK.out _ _ ?_ (fun hHeld => ?_)
   ·first | exact HS | go_keep
   clear hK K
   try simp only [Act.put, pS]
   refine wpAnyH_ready (rs := [22, 25]) (by kernel_rfl) (by simp) ?_
   refine (AllReadyH.cons rfl (fun K hK => ?_) (AllReadyH.cons rfl (fun K hK => ?_) AllReadyH.nil))
   ·go_simp
    refine (OF.out _ HB.out).mono ?_
    rintro e x22 ⟨y, rfl, hone, hown, h9⟩
    replace HB := Lib.hid (HB.out.trans (h9.mono HB.out.size))
    (try replace GB := Lib.hid (GB.out.below h9 GB.out.lt))
    have HS : x22.cell? ⟨g, 1, none⟩ = some (.int .i64 c.ms) ∧ x22.cell? ⟨g, 3, none⟩ = some (.int .i64 tk) ∧ x22.cell? ⟨g, 4, none⟩ = some (.pointer (some ⟨G, 0, none⟩)) ∧ x22.cell? ⟨g, 6, none⟩ = some (.int .u32 (k : Int)) := ⟨(HA2.out.below HB.out).box.cell 1, ((HA2.out.below HB.out).box.cell 3).trans (by rw [HTK.out]; rfl), (HA2.out.below HB.out).box.cell 4, ((HA2.out.below HB.out).box.cell 6).trans (by rw [← HKE.out]; rfl)⟩
    have HONE : Hid (OneOf vs k y) := Lib.hid (HOV.out y hone hown.len_)
    clear h9 hown hone
    refine hK.out _ _ ?_ (fun hHeld => ?_)
    ·first | exact HS | go_keep
    clear hK K
    try simp only [Act.put, pS]
    refine tkT 23 rfl (v := ?_) ?_ ?_
    rotate_left 1
    ·(intro wq hSw; (try dsimp only at hSw); go_simp; (try with_reducible rfl))
    try simp only [Act.put, pS]
    refine tkT 24 rfl (v := ?_) ?_ ?_
    rotate_left 1
    ·(intro wq hSw; (try dsimp only at hSw); go_simp; (try with_reducible rfl))
    try simp only [Act.put, pS]
    refine wpAnyH_ready (rs := [25]) (by kernel_rfl) (by simp) ?_
    refine (AllReadyH.cons rfl (fun K hK => ?_) AllReadyH.nil)
    go_simp
    have lG : w2.heap.size ≤ x22.heap.size := HB.out.size
    have GB := Lib.hid (Blk.new x22 37 ZL)
    replace HB := Lib.hid (HB.out.alloc HB.out.size (.cells ZL 37))
    have HS : (x22.alloc (.cells ZL 37)).cell? ⟨g, 1, none⟩ = some (.int .i64 c.ms) ∧ (x22.alloc (.cells ZL 37)).cell? ⟨g, 3, none⟩ = some (.int .i64 tk) ∧ (x22.alloc (.cells ZL 37)).cell? ⟨g, 4, none⟩ = some (.pointer (some ⟨G, 0, none⟩)) ∧ (x22.alloc (.cells ZL 37)).cell? ⟨g, 6, none⟩ = some (.int .u32 (k : Int)) := ⟨(HA2.out.below HB.out).box.cell 1, ((HA2.out.below HB.out).box.cell 3).trans (by rw [HTK.out]; rfl), (HA2.out.below HB.out).box.cell 4, ((HA2.out.below HB.out).box.cell 6).trans (by rw [← HKE.out]; rfl)⟩
    refine hK.out _ _ ?_ (fun hHeld => ?_)
    ·first | exact HS | go_keep
    clear hK K
    generalize (x22.alloc (.cells ZL 37)) = Va at *
    try simp only [Act.put, pS]
    refine wpAnyH_ready (rs := [26]) (by kernel_rfl) (by simp) ?_
    refine (AllReadyH.cons rfl (fun K hK => ?_) AllReadyH.nil)
    replace HB : Hid (Below w2.heap.size w2 (World.setRow Va x22.heap.size (Lt.cells { Lt.zero with kd := 10, fr := (f : Int), tw := IntKind.i64.wrap (IntKind.i64.wrap (100 + tk.tmod (c.ms : Int)) + 1), ch := y.ch }))) := Lib.hid (below_setRow HB.out lG _)
    have HS : (World.setRow Va x22.heap.size (Lt.cells { Lt.zero with kd := 10, fr := (f : Int), tw := IntKind.i64.wrap (IntKind.i64.wrap (100 + tk.tmod (c.ms : Int)) + 1), ch := y.ch })).cell? ⟨g, 1, none⟩ = some (.int .i64 c.ms) ∧ (World.setRow Va x22.heap.size (Lt.cells { Lt.zero with kd := 10, fr := (f : Int), tw := IntKind.i64.wrap (IntKind.i64.wrap (100 + tk.tmod (c.ms : Int)) + 1), ch := y.ch })).cell? ⟨g, 3, none⟩ = some (.int .i64 tk) ∧ (World.setRow Va x22.heap.size (Lt.cells { Lt.zero with kd := 10, fr := (f : Int), tw := IntKind.i64.wrap (IntKind.i64.wrap (100 + tk.tmod (c.ms : Int)) + 1), ch := y.ch })).cell? ⟨g, 4, none⟩ = some (.pointer (some ⟨G, 0, none⟩)) ∧ (World.setRow Va x22.heap.size (Lt.cells { Lt.zero with kd := 10, fr := (f : Int), tw := IntKind.i64.wrap (IntKind.i64.wrap (100 + tk.tmod (c.ms : Int)) + 1), ch := y.ch })).cell? ⟨g, 6, none⟩ = some (.int .u32 (k : Int)) := ⟨(HA2.out.below HB.out).box.cell 1, ((HA2.out.below HB.out).box.cell 3).trans (by rw [HTK.out]; rfl), (HA2.out.below HB.out).box.cell 4, ((HA2.out.below HB.out).box.cell 6).trans (by rw [← HKE.out]; rfl)⟩
    have HLM : Hid (LetM2 w2 { Lt.zero with kd := 10, fr := (f : Int), tw := IntKind.i64.wrap (IntKind.i64.wrap (100 + tk.tmod (c.ms : Int)) + 1), ch := y.ch } x22.heap.size (World.setRow Va x22.heap.size (Lt.cells { Lt.zero with kd := 10, fr := (f : Int), tw := IntKind.i64.wrap (IntKind.i64.wrap (100 + tk.tmod (c.ms : Int)) + 1), ch := y.ch }))) := Lib.hid ⟨setRow_heap _ _ _ _ _ _ GB.out, lG, HB.out⟩
    have HWL : Hid (WhereL vs k c.ticked { Lt.zero with kd := 10, fr := (f : Int), tw := IntKind.i64.wrap (IntKind.i64.wrap (100 + tk.tmod (c.ms : Int)) + 1), ch := y.ch }) := Lib.hid ⟨y.val, HONE.out.1, by rw [where_tw c tk hms, HFF.out, HTK.out]; rfl⟩
    refine step_store_row rfl 37 (.tmp 3) (.tmp 40) rfl x22.heap.size (Lt.cells { Lt.zero with kd := 10, fr := (f : Int), tw := IntKind.i64.wrap (IntKind.i64.wrap (100 + tk.tmod (c.ms : Int)) + 1), ch := y.ch }) rfl rfl 37 ZL GB.out ltInfo rfl (lt_all _) ?_
    refine hK.out _ _ ?_ (fun hHeld => ?_)
    ·first | exact HS | go_keep
    clear hK K
    generalize (World.setRow Va x22.heap.size (Lt.cells { Lt.zero with kd := 10, fr := (f : Int), tw := IntKind.i64.wrap (IntKind.i64.wrap (100 + tk.tmod (c.ms : Int)) + 1), ch := y.ch })) = Vb at *
    try simp only [Act.put, pS]
    refine wpAnyH_done (by kernel_rfl) ?_ _
    go_wp2_with (fail)
    go_meet
    case rel => exact ⟨_, _, rfl, HLM, HWL⟩
   ·go_simp
    have lG : w2.heap.size ≤ Vd.heap.size := HB.out.size
    have GB := Lib.hid (Blk.new Vd 37 ZL)
    replace HB := Lib.hid (HB.out.alloc HB.out.size (.cells ZL 37))
    have HS : (Vd.alloc (.cells ZL 37)).cell? ⟨g, 1, none⟩ = some (.int .i64 c.ms) ∧ (Vd.alloc (.cells ZL 37)).cell? ⟨g, 3, none⟩ = some (.int .i64 tk) ∧ (Vd.alloc (.cells ZL 37)).cell? ⟨g, 4, none⟩ = some (.pointer (some ⟨G, 0, none⟩)) ∧ (Vd.alloc (.cells ZL 37)).cell? ⟨g, 6, none⟩ = some (.int .u32 (k : Int)) := ⟨(HA2.out.below HB.out).box.cell 1, ((HA2.out.below HB.out).box.cell 3).trans (by rw [HTK.out]; rfl), (HA2.out.below HB.out).box.cell 4, ((HA2.out.below HB.out).box.cell 6).trans (by rw [← HKE.out]; rfl)⟩
    refine hK.out _ _ ?_ (fun hHeld => ?_)
    ·first | exact HS | go_keep
    clear hK K
    generalize (Vd.alloc (.cells ZL 37)) = Va at *
    exact rp8
  ·go_simp
   have lG : w2.heap.size ≤ Vd.heap.size := HB.out.size
   have GB := Lib.hid (Blk.new Vd 37 ZL)
   replace HB := Lib.hid (HB.out.alloc HB.out.size (.cells ZL 37))
   have HS : (Vd.alloc (.cells ZL 37)).cell? ⟨g, 1, none⟩ = some (.int .i64 c.ms) ∧ (Vd.alloc (.cells ZL 37)).cell? ⟨g, 3, none⟩ = some (.int .i64 tk) ∧ (Vd.alloc (.cells ZL 37)).cell? ⟨g, 4, none⟩ = some (.pointer (some ⟨G, 0, none⟩)) ∧ (Vd.alloc (.cells ZL 37)).cell? ⟨g, 6, none⟩ = some (.int .u32 (k : Int)) := ⟨(HA2.out.below HB.out).box.cell 1, ((HA2.out.below HB.out).box.cell 3).trans (by rw [HTK.out]; rfl), (HA2.out.below HB.out).box.cell 4, ((HA2.out.below HB.out).box.cell 6).trans (by rw [← HKE.out]; rfl)⟩
   refine hK.out _ _ ?_ (fun hHeld => ?_)
   ·first | exact HS | go_keep
   clear hK K
   generalize (Vd.alloc (.cells ZL 37)) = Va at *
   try simp only [Act.put, pS]
   refine wpAnyH_ready (rs := [1]) (by kernel_rfl) (by simp) ?_
   refine (AllReadyH.cons rfl (fun K hK => ?_) AllReadyH.nil)
   go_simp
   refine (AD.out _ HB.out).mono ?_
   rintro e x9 ⟨rfl, rfl⟩
   have HS : Va.cell? ⟨g, 1, none⟩ = some (.int .i64 c.ms) ∧ Va.cell? ⟨g, 3, none⟩ = some (.int .i64 tk) ∧ Va.cell? ⟨g, 4, none⟩ = some (.pointer (some ⟨G, 0, none⟩)) ∧ Va.cell? ⟨g, 6, none⟩ = some (.int .u32 (k : Int)) := ⟨(HA2.out.below HB.out).box.cell 1, ((HA2.out.below HB.out).box.cell 3).trans (by rw [HTK.out]; rfl), (HA2.out.below HB.out).box.cell 4, ((HA2.out.below HB.out).box.cell 6).trans (by rw [← HKE.out]; rfl)⟩
   refine hK.out _ _ ?_ (fun hHeld => ?_)
   ·first | exact HS | go_keep
   clear hK K
   exact rp8
 case rest =>
  obtain ⟨g3, l, rfl, HM, HWL⟩ := hcut
  clear y1 y3 y4 y6 OF AD hz hfd m0
  have HA3 := Lib.hid (HA2.out.below HM.out.bel)
  have HK3 := Lib.hid (HK2.out.below HM.out.bel)
  have AS1 := Lib.hid (fun W (h9 : Below wc.heap.size wc W) => ask2_any lo g G h vs c.ticked k W (HA3.out.below h9) HKE.out hkk (HK3.out.below h9) hcl hnum hn HVS.out)
  obtain ⟨i0, hi, hz0, hz1, hz2⟩ := info_parts ltRowInfo
  have hbl := HM.out.blk
  have l3 := HM.out.blk.lt
  have HBL := Lib.hid HM.out.blk
  have HB0 := Lib.hid HM.out.bel
  have hs2 := HM.out.bel.size
  have HLO : Hid (lo ≤ w2.heap.size) := Lib.hid (Nat.le_trans hlo HC2.out.size)
  clear HM
  go_upto_region 7 with (fail)
  refine wp_region_held_drew (S := fun wq => Blk wq g3 37 l.cells) (by kernel_rfl) hbl (fun hHeld => ?_)
  have HB : Hid (Below wc.heap.size wc wc.drew) := Lib.hid (Below.refl _ _).drew
  refine tkT 0 rfl (v := ?_) ?_ ?_
  rotate_left 1
  ·(intro wq hSw; (try dsimp only at hSw); go_simp; (try with_reducible rfl))
  try simp only [Act.put, pS]
  refine tkT 2 rfl (v := (.agg #[.int .i64 l.kd, .int .i64 l.fr, .int .i64 l.tw, .int .i64 l.ch, .int .u64 l.ep, .int .u64 l.bl, .int .u64 l.nu, .int .u64 l.sq, .int .u64 l.dz, .int .u64 l.vr, .int .i64 l.sl, .int .u32 l.ky, .int .i64 l.cd, .int .i64 l.qk, .int .i64 l.qc, .int .u64 l.qe, .int .i64 l.qn, .int .i64 l.fc, .int .u64 l.fe, .slice l.fA l.fn l.fp, .bool l.ff, .int .i64 l.fj, .slice l.vA l.vn l.vp, .slice l.uA l.un l.up, .slice l.dA l.dn l.dp])) ?_ ?_
  ·exact fun wq hSw => exec_load_row rfl _ rfl (load_lt l _ wq hSw)
  try simp only [Act.put, pS]
  refine wpAnyH_ready (rs := [1, 3]) (by kernel_rfl) (by simp) ?_
  refine (AllReadyH.cons rfl (fun K hK => ?_) (AllReadyH.cons rfl (fun K hK => ?_) AllReadyH.nil))
  ·go_simp
   refine (AS1.out _ HB.out).mono ?_
   rintro e x1 ⟨q1, xx, rfl, hq1, hbk1, hin1, hnr1, hof1, h9⟩
   have HQ := Lib.hid (own_one_lt hbk1 (Nat.le_trans HB.out.size hq1))
   have HQ2 := Lib.hid (own_one_lt hbk1 (Nat.le_refl q1))
   have HX1 : Hid (LIn x1 q1 xx ∧ xx.near ∧ AskOf vs k c.ticked xx.val) := Lib.hid ⟨hin1, hnr1, hof1⟩
   have HBq : Hid (Below q1 x1 x1) := Lib.hid (Below.refl _ _)
   have hql : q1 ≤ x1.heap.size := Nat.le_of_lt hbk1.lt
   replace HB := Lib.hid (HB.out.trans (h9.mono HB.out.size))
   (try replace HN := Lib.hid (HN.out.below h9 HN.out.lt))
   have HS : Blk x1 g3 37 l.cells := HBL.out.below HB.out l3
   clear hq1 hin1 hnr1 hof1 hbk1 h9
   have HXC : Hid (lrow xx = xx.l.cells.toList) := Lib.hid rfl
   generalize hxs1 : xx.l.cells.toList = xs1 at HQ HQ2 HXC
   clear hxs1
   refine hK.out _ _ ?_ (fun hHeld => ?_)
   ·first | exact HS | go_keep
   clear hK K
   try simp only [Act.put, pS]
   refine wpAnyH_ready (rs := [3]) (by kernel_rfl) (by simp) ?_
   refine (AllReadyH.cons rfl (fun K hK => ?_) AllReadyH.nil)
   go_simp
   have HN : Hid (Blk (x1.alloc (.cells l.cells 37)) x1.heap.size 37 l.cells) := Lib.hid (Blk.new x1 37 l.cells)
   replace HB := Lib.hid (HB.out.alloc HB.out.size (.cells l.cells 37))
   (try replace HQ := Lib.hid (HQ.out.alloc (.cells l.cells 37)))
   (try replace HQ2 := Lib.hid (HQ2.out.alloc (.cells l.cells 37)))
   (try replace HBq := Lib.hid (HBq.out.alloc (Nat.le_trans hql HBq.out.size) (.cells l.cells 37)))
   have HS : Blk (x1.alloc (.cells l.cells 37)) g3 37 l.cells := HBL.out.below HB.out l3
   refine hK.out _ _ ?_ (fun hHeld => ?_)
   ·first | exact HS | go_keep
   clear hK K
   try simp only [Act.put, pS]
   refine wpAnyH_ready (rs := [4]) (by kernel_rfl) (by simp) ?_
   refine (AllReadyH.cons rfl (fun K hK => ?_) AllReadyH.nil)
   refine step_append_any _ rfl (.tmp 42) (.tmp 44) _ rfl wc.heap.size 37 i0 _ 25 264 Tryz.underlying67 hi hz0 hz1 hz2 rfl (by omega) (.slice (some ⟨q1, 0, none⟩) 1 1) 1 xs1 rfl HQ.out _ (some ⟨x1.heap.size, 0, none⟩) 1 1 l.cells.toList rfl (reads_blk_lt HN.out) (lt_news l) (by decide) (by decide) HB.out.size ?_
   exact rp27
  ·go_simp
   have HN : Hid (Blk (wc.drew.alloc (.cells l.cells 37)) wc.heap.size 37 l.cells) := Lib.hid (Blk.new wc.drew 37 l.cells)
   replace HB := Lib.hid (HB.out.alloc HB.out.size (.cells l.cells 37))
   (try replace HQ := Lib.hid (HQ.out.alloc (.cells l.cells 37)))
   (try replace HQ2 := Lib.hid (HQ2.out.alloc (.cells l.cells 37)))
   (try replace HBq := Lib.hid (HBq.out.alloc (Nat.le_trans hql HBq.out.size) (.cells l.cells 37)))
   have HS : Blk (wc.drew.alloc (.cells l.cells 37)) g3 37 l.cells := HBL.out.below HB.out l3
   refine hK.out _ _ ?_ (fun hHeld => ?_)
   ·first | exact HS | go_keep
   clear hK K
   try simp only [Act.put, pS]
   refine wpAnyH_ready (rs := [1]) (by kernel_rfl) (by simp) ?_
   refine (AllReadyH.cons rfl (fun K hK => ?_) AllReadyH.nil)
   go_simp
   refine (AS1.out _ HB.out).mono ?_
   rintro e x1 ⟨q1, xx, rfl, hq1, hbk1, hin1, hnr1, hof1, h9⟩
   have HQ := Lib.hid (own_one_lt hbk1 (Nat.le_trans HB.out.size hq1))
   have HQ2 := Lib.hid (own_one_lt hbk1 (Nat.le_refl q1))
   have HX1 : Hid (LIn x1 q1 xx ∧ xx.near ∧ AskOf vs k c.ticked xx.val) := Lib.hid ⟨hin1, hnr1, hof1⟩
   have HBq : Hid (Below q1 x1 x1) := Lib.hid (Below.refl _ _)
   have hql : q1 ≤ x1.heap.size := Nat.le_of_lt hbk1.lt
   replace HB := Lib.hid (HB.out.trans (h9.mono HB.out.size))
   (try replace HN := Lib.hid (HN.out.below h9 HN.out.lt))
   have HS : Blk x1 g3 37 l.cells := HBL.out.below HB.out l3
   clear hq1 hin1 hnr1 hof1 hbk1 h9
   have HXC : Hid (lrow xx = xx.l.cells.toList) := Lib.hid rfl
   generalize hxs1 : xx.l.cells.toList = xs1 at HQ HQ2 HXC
   clear hxs1
   refine hK.out _ _ ?_ (fun hHeld => ?_)
   ·first | exact HS | go_keep
   clear hK K
   try simp only [Act.put, pS]
   refine wpAnyH_ready (rs := [4]) (by kernel_rfl) (by simp) ?_
   refine (AllReadyH.cons rfl (fun K hK => ?_) AllReadyH.nil)
   refine step_append_any _ rfl (.tmp 42) (.tmp 44) _ rfl wc.heap.size 37 i0 _ 25 264 Tryz.underlying67 hi hz0 hz1 hz2 rfl (by omega) (.slice (some ⟨q1, 0, none⟩) 1 1) 1 xs1 rfl HQ.out _ (some ⟨wc.heap.size, 0, none⟩) 1 1 l.cells.toList rfl (reads_blk_lt HN.out) (lt_news l) (by decide) (by decide) HB.out.size ?_
   exact rp27
end Go.Proofs.YtmpedblelnpjdaaGreatDoor

end
