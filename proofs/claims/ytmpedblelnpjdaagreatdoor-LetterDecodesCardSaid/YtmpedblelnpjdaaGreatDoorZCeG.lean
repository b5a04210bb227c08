/- letter.Check by what a letter says; letter.Decode of any bytes. -/
import Derived.Test.YtmpedblelnpjdaaGreatDoorZCeD
import Derived.Test.YtmpedblelnpjdaaGreatDoorZCeH
namespace Go.Proofs.YtmpedblelnpjdaaGreatDoor
open Go.RowKit
set_option linter.unusedSimpArgs false
set_option linter.unusedVariables false
set_option maxHeartbeats 4000000
set_option maxRecDepth 100000
open Classical in
noncomputable def upOkT (t : Int × Int × Int × Int × Int × Int × List Int) (r : Bool) : Bool := decide ((t.1 = 0 ↔ r = true) ∧ 1 ≤ t.2.1 ∧ t.2.1 ≤ 6 ∧ 1 ≤ t.2.2.1 ∧ ((t.2.2.2.1 = 2 ∧ t.2.2.2.2.2.1 = 0) ∨ t.2.2.2.1 = 3) ∧ t.2.2.2.2.2.2.length ≤ 2048)
noncomputable def fineV (v : LVal) (i : Nat) : Bool := match i with
 | 0 => decide (0 ≤ v.ch ∧ v.ch < 4)
 | 1 => decide (1 ≤ v.ep)
 | 2 => isBal v.bl
 | 5 => decide (0 ≤ v.sl ∧ v.sl ≤ 512)
 | 7 => decide (0 ≤ v.cd ∧ v.cd ≤ 255)
 | 10 => decide (cmdE v.qk v.qc v.qe v.qn = 0)
 | 11 => Cn.right ⟨v.fc, v.fe, v.ff, v.fj, v.ns⟩
 | 12 => votesB v.vs
 | 13 => decide ((v.kd = 17 → v.us.length = 1) ∧ v.us.length ≤ 4) && v.us.all (fun t => upOkT t (decide (v.kd = 17)))
 | 14 => decide ((v.ds.length : Int) ≤ if v.kd = 14 then 1024 else 2048)
 | _ => true
def LVal.head (v : LVal) : LVal := { LVal.zero with kd := v.kd, fr := v.fr, tw := v.tw }
open Classical in
noncomputable def chkV (v : LVal) : Int :=
 if v.kd < 1 ∨ 20 < v.kd then 1 else
  if addrB v.fr = true ∧ addrB v.tw = true ∧ v = LVal.sel (partF v.kd.toNat 15) v.head v ∧ (partsI v.kd.toNat).all (fineV v) = true then 0 else 4
theorem mask_val (x : LV) (f : Nat → Bool) : (x.mask f).val = LVal.sel f x.val.head x.val := by
 have lp : ∀ (b : Bool), ((if b = true then x.us else []).map Up.val) = if b = true then x.us.map Up.val else [] := fun b => by cases b <;> rfl
 simp only [LVal.sel, LV.mask, Lt.mask, LV.val, LVal.zero, LVal.head, lp]
theorem fine_val (x : LV) (w : World) (B : Nat) (h : LIn w B x) (i : Nat) : fineB x i = fineV x.val i := by
 match i with
 | 0 => rfl
 | 1 => rfl
 | 2 => rfl
 | 3 => rfl
 | 4 => rfl
 | 5 => rfl
 | 6 => rfl
 | 7 => rfl
 | 8 => rfl
 | 9 => rfl
 | 10 => rfl
 | 11 =>
  show x.conf.right = Cn.right ⟨x.l.fc, x.l.fe, x.l.ff, x.l.fj, x.ns⟩
  have hn : x.ns.length = x.l.fn := h.nl
  rw [Bool.eq_iff_iff]
  show x.conf.right = true ↔ (Cn.cf ⟨x.l.fc, x.l.fe, x.l.ff, x.l.fj, x.ns⟩ none 0).right = true
  rw [right_iff, right_iff]
  have e1 : x.conf.stands = (Cn.cf ⟨x.l.fc, x.l.fe, x.l.ff, x.l.fj, x.ns⟩ none 0).stands := rfl
  have e2 : x.conf.fine ↔ (Cn.cf ⟨x.l.fc, x.l.fe, x.l.ff, x.l.fj, x.ns⟩ none 0).fine := by simp only [Cf.fine, LV.conf, Cn.cf, hn]
  rw [e1, e2]
 | 12 => rfl
 | 13 =>
  show (decide ((x.l.kd = 17 → x.us.length = 1) ∧ x.us.length ≤ 4) && upsOk x.us (decide (x.l.kd = 17))) = (decide ((x.l.kd = 17 → (x.us.map Up.val).length = 1) ∧ (x.us.map Up.val).length ≤ 4) && (x.us.map Up.val).all (fun t => upOkT t (decide (x.l.kd = 17))))
  rw [List.length_map, List.all_map]
  congr 1
  unfold upsOk
  rw [Bool.eq_iff_iff, List.all_eq_true, List.all_eq_true]
  refine forall_congr' (fun u => forall_congr' (fun hu => ?_))
  have := (h.up.mem u hu).len
  simp only [Function.comp_apply, upOkB, upOkT, upOkP, Up.val, decide_eq_true_eq, this]
 | 14 =>
  show decide ((x.l.dn : Int) ≤ if x.l.kd = 14 then 1024 else 2048) = decide ((x.ds.length : Int) ≤ if x.l.kd = 14 then 1024 else 2048)
  rw [h.dl]
 | (_ + 15) => rfl
theorem chk_val (x : LV) (w : World) (B : Nat) (h : LIn w B x) : chkX x = chkV x.val := by
 unfold chkX chkV
 have e1 : (partsI x.l.kd.toNat).all (fineB x) = (partsI x.val.kd.toNat).all (fineV x.val) := by
  show (partsI x.l.kd.toNat).all (fineB x) = (partsI x.l.kd.toNat).all (fineV x.val)
  congr 1; funext i; exact fine_val x w B h i
 have e2 : (sameB x (x.mask (partF x.l.kd.toNat 15)) = true) ↔ (x.val = LVal.sel (partF x.val.kd.toNat 15) x.val.head x.val) := by
  unfold sameB; rw [decide_eq_true_eq, mask_val]; exact Iff.rfl
 rw [e1]
 by_cases hk : x.l.kd < 1 ∨ 20 < x.l.kd
 ·rw [if_pos hk, if_pos (show x.val.kd < 1 ∨ 20 < x.val.kd from hk)]
 ·rw [if_neg hk, if_neg (show ¬ (x.val.kd < 1 ∨ 20 < x.val.kd) from hk)]
  by_cases hp : addrB x.l.fr = true ∧ addrB x.l.tw = true ∧ sameB x (x.mask (partF x.l.kd.toNat 15)) = true ∧ (partsI x.val.kd.toNat).all (fineV x.val) = true
  ·rw [if_pos hp, if_pos ⟨hp.1, hp.2.1, e2.1 hp.2.2.1, hp.2.2.2⟩]
  ·rw [if_neg hp, if_neg (fun q => hp ⟨q.1, q.2.1, e2.2 q.2.2.1, q.2.2.2⟩)]
theorem getC_any (i : Nat) (hi : i < 15) : GetC stX i := by
 match i, hi with
 | 0, _ => exact getC0 stO
 | 1, _ => exact getC1 stO
 | 2, _ => exact getC2 stO
 | 3, _ => exact getC3 stO
 | 4, _ => exact getC4 stO
 | 5, _ => exact getC5 stO
 | 6, _ => exact getC6 stO
 | 7, _ => exact getC7 stO
 | 8, _ => exact getC8 stO
 | 9, _ => exact getC9 stO
 | 10, _ => exact getC10 stX (fun _ _ => rfl)
 | 11, _ => exact getC11 stX (fun _ _ => rfl)
 | 12, _ => exact getC12 stX (fun _ _ => rfl)
 | 13, _ => exact getC13 stX (fun _ _ => rfl)
 | 14, _ => exact getC14 stX (fun _ _ => rfl)
 | (n + 15), h => omega
theorem partsI_out (k : Nat) (hk : 21 ≤ k) : partsI k = [] := by
 have h : ∀ j, kindP k j = 0 := fun j => by
  unfold kindP
  have : kindT.getD k [] = [] := by
   rw [List.getD_eq_getElem?_getD, List.getElem?_eq_none (show kindT.length ≤ k from hk)]; rfl
  rw [this]; rfl
 unfold partsI
 rw [List.filter_eq_nil_iff.2 (fun j _ => by rw [h j]; simp)]; rfl
theorem partsI_all (k : Nat) : (∀ i ∈ partsI k, i < 15) ∧ (partsI k).Nodup ∧ (partsI k).length ≤ 6 := by
 by_cases hk : k < 21
 ·exact ⟨partsI_lt k hk, partsI_nodup k hk, partsI_len k hk⟩
 ·rw [partsI_out k (by omega)]; exact ⟨fun i hi => (by cases hi), List.nodup_nil, by simp⟩
theorem nodup_take {l : List Nat} (h : l.Nodup) (j k : Nat) (hk : l[j]? = some k) : k ∉ l.take j := by
 intro hm
 obtain ⟨i, hi⟩ := List.getElem?_of_mem hm
 rw [List.getElem?_take] at hi
 split at hi
 ·rename_i hlt
  have h1 := (List.getElem?_eq_some_iff.1 hk).1
  have h2 := (List.getElem?_eq_some_iff.1 hi).1
  have e1 : l[j] = k := (List.getElem?_eq_some_iff.1 hk).2
  have e2 : l[i] = k := (List.getElem?_eq_some_iff.1 hi).2
  exact (List.pairwise_iff_getElem.1 h) i j h2 h1 hlt (by rw [e1, e2])
 ·cases hi
theorem lists_empty (b : List Nat) (j k : Nat) (s : FI) (v : LVal) (hk : (partsI (getK b))[j]? = some k) (h1 : v.vs = []) (h2 : v.us = []) : (k = 12 → (stF stX ((partsI (getK b)).take j) s v).2.vs = []) ∧ (k = 13 → (stF stX ((partsI (getK b)).take j) s v).2.us = []) := by
 obtain ⟨q1, q2, _⟩ := partsI_all (getK b)
 have hno := nodup_take q2 j k hk
 have hs := stF_sel ((partsI (getK b)).take j) s v (fun i hi => q1 i (List.mem_of_mem_take hi))
 constructor
 ·intro e
  subst e
  rw [hs]
  show (if ((partsI (getK b)).take j).contains 12 = true then _ else v.vs) = []
  rw [if_neg (by simpa [List.contains_iff_mem] using hno)]; exact h1
 ·intro e
  subst e
  rw [hs]
  show (if ((partsI (getK b)).take j).contains 13 = true then _ else v.us) = []
  rw [if_neg (by simpa [List.contains_iff_mem] using hno)]; exact h2
structure nearM (m : Nat) (v : LVal) : Prop where
 us : v.us.length ≤ 4 * m
 ub : ∀ t ∈ v.us, t.2.2.2.2.2.2.length ≤ 2048
 vs : v.vs.length ≤ 512 * m
 ds : v.ds.length ≤ 2048
 ns : v.ns.length ≤ 255
theorem text_len (s : FI) (most : Nat) : (s.text most).2.length ≤ most := by
 unfold FI.text
 split
 ·split
  ·simp
  ·exact Nat.le_trans (raw_len _ _) (by omega)
 ·simp
theorem getUv_len (s : FI) : (getUv s).2.2.2.2.2.2.length ≤ 2048 := by
 unfold getUv
 split
 ·exact text_len _ 2048
 ·exact Nat.zero_le _
theorem upsG_ub (s : FI) : ∀ j, ∀ t ∈ (upsG s j).2, t.2.2.2.2.2.2.length ≤ 2048
 | 0, t, ht => by cases ht
 | j + 1, t, ht => by
  rw [upsG] at ht
  rcases List.mem_append.1 ht with ht | ht
  ·exact upsG_ub s j t ht
  ·rw [List.mem_singleton] at ht
   subst ht; exact getUv_len _
theorem confGv_len (s : FI) (hb : bytesB s.l) : (confGv s).ns.length ≤ 255 := by
 unfold confGv
 split
 ·exact Nat.zero_le _
 ·split
  ·exact k6_len s hb
  ·exact Nat.zero_le _
theorem st_near (i : Nat) (s : FI) (v : LVal) (m : Nat) (hb : bytesB s.l) (h : nearM m v) : nearM (m + 1) (stX i s v).2 := by
 have k1 : 4 * m ≤ 4 * (m + 1) := by omega
 have k2 : 512 * m ≤ 512 * (m + 1) := by omega
 have g := h.us
 have gv := h.vs
 match i with
 | 0 => exact ⟨Nat.le_trans h.us k1, h.ub, Nat.le_trans h.vs k2, h.ds, h.ns⟩
 | 1 => exact ⟨Nat.le_trans h.us k1, h.ub, Nat.le_trans h.vs k2, h.ds, h.ns⟩
 | 2 => exact ⟨Nat.le_trans h.us k1, h.ub, Nat.le_trans h.vs k2, h.ds, h.ns⟩
 | 3 => exact ⟨Nat.le_trans h.us k1, h.ub, Nat.le_trans h.vs k2, h.ds, h.ns⟩
 | 4 => exact ⟨Nat.le_trans h.us k1, h.ub, Nat.le_trans h.vs k2, h.ds, h.ns⟩
 | 5 => exact ⟨Nat.le_trans h.us k1, h.ub, Nat.le_trans h.vs k2, h.ds, h.ns⟩
 | 6 => exact ⟨Nat.le_trans h.us k1, h.ub, Nat.le_trans h.vs k2, h.ds, h.ns⟩
 | 7 => exact ⟨Nat.le_trans h.us k1, h.ub, Nat.le_trans h.vs k2, h.ds, h.ns⟩
 | 8 => exact ⟨Nat.le_trans h.us k1, h.ub, Nat.le_trans h.vs k2, h.ds, h.ns⟩
 | 9 => exact ⟨Nat.le_trans h.us k1, h.ub, Nat.le_trans h.vs k2, h.ds, h.ns⟩
 | 10 => exact ⟨Nat.le_trans h.us k1, h.ub, Nat.le_trans h.vs k2, h.ds, h.ns⟩
 | 11 => exact ⟨Nat.le_trans h.us k1, h.ub, Nat.le_trans h.vs k2, h.ds, confGv_len s hb⟩
 | 12 =>
  refine ⟨Nat.le_trans h.us k1, h.ub, ?_, h.ds, h.ns⟩
  show (v.vs ++ (votsG (s.upto 2 512).1 (s.upto 2 512).2).2.1).length ≤ _
  have q1 := votsG_len (s.upto 2 512).1 (s.upto 2 512).2
  have q2 := FI.upto_most s 2 512
  rw [List.length_append]; omega
 | 13 =>
  refine ⟨?_, fun t ht => ?_, Nat.le_trans h.vs k2, h.ds, h.ns⟩
  ·show (v.us ++ (upsG (s.upto 1 4).1 (s.upto 1 4).2).2).length ≤ _
   have q2 := FI.upto_most s 1 4
   rw [List.length_append, upsG_len]; omega
  ·rcases List.mem_append.1 ht with ht | ht
   ·exact h.ub t ht
   ·exact upsG_ub _ _ t ht
 | 14 =>
  refine ⟨Nat.le_trans h.us k1, h.ub, Nat.le_trans h.vs k2, ?_, h.ns⟩
  show (s.text (roomV v.kd)).2.length ≤ 2048
  have hr : 0 ≤ roomV v.kd ∧ roomV v.kd ≤ 2048 := by unfold roomV; split <;> omega
  have := text_len s (roomV v.kd).toNat
  rw [Int.toNat_of_nonneg hr.1] at this
  omega
 | (_ + 15) => exact ⟨Nat.le_trans h.us k1, h.ub, Nat.le_trans h.vs k2, h.ds, h.ns⟩
theorem stF_near (is : List Nat) : ∀ (s : FI) (v : LVal) (m : Nat), bytesB s.l → nearM m v → nearM (m + is.length) (stF stX is s v).2 := by
 induction is with
 | nil => intro s v m _ h; exact h
 | cons i is ih =>
  intro s v m hb h
  have := ih _ _ (m + 1) (stX_bytes i s v hb) (st_near i s v m hb h)
  rw [stF_cons, List.length_cons, show m + (is.length + 1) = m + 1 + is.length by omega]
  exact this
theorem near_dec (x : LV) (w : World) (B : Nat) (h : LIn w B x) (b : List Nat) (hb : isBs b) (hv : x.val = (decS stX b).2) : x.near := by
 have hb0 := (getB_facts b hb).2.1
 have h1 : bytesB (dec1 b).1.l := FI.upto_bytes _ _ _ hb0
 have h2 : bytesB (dec2 b).1.l := FI.upto_bytes _ _ _ h1
 have n0 : nearM 0 (decV b) := ⟨Nat.zero_le _, fun t ht => (by cases ht), Nat.zero_le _, Nat.zero_le _, Nat.zero_le _⟩
 have n1 := stF_near (partsI (getK b)) (dec2 b).1 (decV b) 0 h2 n0
 have e : (stF stX (partsI (getK b)) (dec2 b).1 (decV b)).2 = x.val := hv.symm
 rw [e] at n1
 have hl := (partsI_all (getK b)).2.2
 have q1 : (x.us.map Up.val).length ≤ _ := n1.us
 have q2 : x.vs.length ≤ _ := n1.vs
 have q3 : x.ds.length ≤ _ := n1.ds
 have q4 : x.ns.length ≤ _ := n1.ns
 rw [List.length_map] at q1
 have u1 := h.ul
 have u2 := h.vl
 have u3 := h.dl
 have u4 := h.nl
 refine ⟨fun u hu => ?_, by omega, by omega, by omega, by omega⟩
 have := n1.ub u.val (List.mem_map.2 ⟨u, hu, rfl⟩)
 have hl2 := (h.up.mem u hu).len
 simp only [Up.val] at this
 omega
theorem decode_any (c g : Nat) (d : Bool) (cx cy : Int) (A : Option Addr) (n cp B : Nat) (b : List Nat) (w : World) (hcd : Cd w c g d cx cy) (hr : Reads w B 1 A n ((bI b).map (Value.int .u8))) (hb : isBs b) (hB : B ≤ w.heap.size)
  (hA : ∀ ad, 0 < n → A = some ad → ad.block ≠ g) (hn : n ≤ 1000000) (hnc : n ≤ cp) (hc : cp ≤ 9223372036854775807) (hx : 0 ≤ cx ∧ cx ≤ 1000000) (hy : 0 ≤ cy ∧ cy ≤ 1000000)
  (hKW : ∀ W, Chg w W (fun k => k = g ∨ k = c) → KindsAt W) :
  Calls Tryz.prog 9 #[.pointer (some ⟨c, 0, none⟩), .slice A n cp] w (DecQ (decE chkV stX b) (decS stX b).2 c g (cntX cx (getE b)) (cntY cy (getE b)) w) := by
 refine decode_of chkV stX c g d cx cy A n cp B b w hcd hr hb hB hA hn hnc hc hx hy hKW (fun x W hK h hv => ?_) stX_short (fun j k s v => lists_empty b j k s v) (fun i hi => getC_any i ((partsI_all _).1 i hi)) (partsI_all _).2.2
 have := check_any x W.heap.size W hK h (Nat.le_refl _) (near_dec x W W.heap.size h b hb hv)
 rwa [chk_val x W W.heap.size h] at this
end Go.Proofs.YtmpedblelnpjdaaGreatDoor
