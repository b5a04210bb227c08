/- The document's caller: Take of a configuration. -/
import Derived.Test.YtmpedblelnpjdaaGreatDoorZCalH
import Derived.Test.YtmpedblelnpjdaaGreatDoorZTq
import Derived.Test.YtmpedblelnpjdaaGreatDoorZTk
namespace Go.Proofs.YtmpedblelnpjdaaGreatDoor
open Go.RowKit
set_option linter.unusedSimpArgs false
set_option linter.unusedVariables false
set_option maxHeartbeats 1000000
set_option maxRecDepth 100000
def DA.learnt (d : DA) (A : Option Addr) (n : Nat) : DA := ⟨A, d.ln, n, d.oA, d.oc, d.rA, d.rc, d.yA, d.yc⟩
def ChAsk (vs : List CV) (k : Nat) (ch : Int) : Prop := ∃ v : CV, vs[(chainV k vs.length).toNat]? = some v ∧ v.1 = ch
def AskNow (vs : List CV) (k : Nat) (c : Cl) (x : Cf) : Prop := learnB vs x = true ∧ c.st = 1 ∧ ChAsk (learnV vs x) k x.ch
theorem learnV_len (vs : List CV) (x : Cf) : (learnV vs x).length = vs.length := by
 unfold learnV
 split <;> simp
theorem right_of9 (x : Cf) (h : x.zs.length = x.len) : (cfOf x.val).right = x.right := by
 have e := cfOf_val x h
 generalize cfOf x.val = z at e
 rw [e]
 rfl
theorem VsOk.learn {vs : List CV} {x : Cf} (h : VsOk vs) (hl : x.zs.length = x.len) (he : x.ep ≤ 18446744073709551615) : VsOk (learnV vs x) := by
 unfold learnV
 split
 case isTrue hb =>
  intro v hv
  rcases List.mem_or_eq_of_mem_set hv with h1 | h1
  ·exact h v h1
  ·subst h1
   refine ⟨?_, ?_⟩
   ·rw [right_of9 x hl]
    unfold learnB at hb
    simp only [Bool.and_eq_true] at hb
    split at hb
    ·simp only [Bool.and_eq_true] at hb
     exact hb.2.1
    ·simp at hb
   ·show ((x.ep : Nat) : Int) ≤ _
    omega
 case isFalse => exact h
theorem cfs_chg {w w' : World} {B n : Nat} {A : Option Addr} {l : List Cf} {S : Nat → Prop} (h : CfsIn w B A n l) (hc : Chg w w' S) (hB : B ≤ w.heap.size) (hA : ∀ ad, 0 < n → A = some ad → ¬ S ad.block) (hm : ∀ x ∈ l, ∀ ad, 0 < x.len → x.A = some ad → ¬ S ad.block) : CfsIn w' B A n l :=
 ⟨hc.reads h.rd hB hA, fun x hx => ⟨hc.reads (h.mem x hx).rd hB (hm x hx), (h.mem x hx).hc, (h.mem x hx).hm⟩⟩
theorem reads_lt {w : World} {B size n : Nat} {A : Option Addr} {xs : List Value} (h : Reads w B size A n xs) (ad : Addr) (h0 : 0 < n) (hA : A = some ad) : ad.block < B := by
 obtain ⟨a2, e, hb, _⟩ := h.2 h0
 rw [hA] at e
 injection e with e
 subst e
 exact hb
theorem conf_agg (x : LV) (h : 0 ≤ x.l.fe) : x.conf.agg = .agg #[.int .i64 x.l.fc, .int .u64 x.l.fe, .slice x.l.fA x.l.fn x.l.fp, .bool x.l.ff, .int .i64 x.l.fj] := by
 have : ((x.l.fe.toNat : Nat) : Int) = x.l.fe := by omega
 unfold Cf.agg LV.conf
 simp only [this]
def DConfP (l : List Cf) (k : Nat) (c : Cl) (d : DA) (x : Cf) (w : World) (e : Ending) (w' : World) : Prop := Below w.heap.size w w' ∧ ∃ A' c' l', CfsIn w' w'.heap.size A' d.ln l' ∧ l'.map Cf.val = learnV (l.map Cf.val) x ∧ (d.ln ≤ c' ∧ c' ≤ maxLen) ∧ (A' = d.lA ∨ ∃ g, A' = some ⟨g, 0, none⟩ ∧ w.heap.size ≤ g) ∧ (∀ z ∈ l', z ∈ l ∨ z = x) ∧
  ((AskNow (l.map Cf.val) k c x ∧ ∃ (q : Nat) (xx : LV), e = .returned (.tuple #[.agg (c.dcells (d.learnt A' c')), .slice (some ⟨q, 0, none⟩) 1 1]) ∧ w.heap.size ≤ q ∧ Blk w' q 37 xx.l.cells ∧ LIn w' q xx ∧ xx.near ∧ AskOf (learnV (l.map Cf.val) x) k c xx.val) ∨
   (¬ AskNow (l.map Cf.val) k c x ∧ e = .returned (.tuple #[.agg (c.dcells (d.learnt A' c')), .slice none 0 0])))
theorem dTake_conf (c : Cl) (d : DA) (l : List Cf) (x : LV) (k B : Nat) (w : World) (h : DIn w B c d l) (hx : LIn w B x) (hB : B ≤ w.heap.size) (hnx : x.near) (hk : c.op.key = (k : Int)) (h1 : 1 ≤ l.length) (h4 : l.length ≤ 4) (hvs : VsOk (l.map Cf.val)) (hcl : c.cl ≤ 6) (hnum : c.num ≤ 1000000) (hn : c.op.n ≤ 1000000) (hfi : ForIt c x) (hk11 : x.l.kd = 11) :
  Calls Tryz.prog 26 #[.agg (c.dcells d), .agg x.l.cells] w (DConfP l k c d x.conf w) := by
 obtain ⟨W1, hW1⟩ : ∃ W1, W1 = ((w.alloc (.cells (c.dcells d) 62)).alloc (.cells x.l.cells 37)).alloc (.cells #[.int .i64 0, .int .i64 0, .int .u64 0, .int .i64 0, .slice none 0 0, .int .i64 0, .int .u32 0, .int .u64 0, .slice none 0 0, .int .i64 0, .int .i64 0, .int .i64 0, .int .u64 0, .slice none 0 0, .int .u64 0, .int .i64 0, .int .u64 0, .slice none 0 0] 62) := ⟨_, rfl⟩
 have HX : Hid (Blk W1 w.heap.size 62 (c.dcells d)) := Lib.hid (by rw [hW1]; exact ((Blk.new _ _ _).alloc _).alloc _)
 have HL : Hid (Blk W1 (w.heap.size + 1) 37 x.l.cells) := Lib.hid (by rw [hW1, show w.heap.size + 1 = (w.alloc (.cells (c.dcells d) 62)).heap.size by simp]; exact (Blk.new _ _ _).alloc _)
 have HR : Hid (Blk W1 (w.heap.size + 2) 62 #[.int .i64 0, .int .i64 0, .int .u64 0, .int .i64 0, .slice none 0 0, .int .i64 0, .int .u32 0, .int .u64 0, .slice none 0 0, .int .i64 0, .int .i64 0, .int .i64 0, .int .u64 0, .slice none 0 0, .int .u64 0, .int .i64 0, .int .u64 0, .slice none 0 0]) := Lib.hid (by rw [hW1, show w.heap.size + 2 = ((w.alloc (.cells (c.dcells d) 62)).alloc (.cells x.l.cells 37)).heap.size by simp]; exact Blk.new _ _ _)
 have HB : Hid (Below w.heap.size w W1) := Lib.hid (by rw [hW1]; exact (((Below.refl _ _).alloc (Nat.le_refl _) _).alloc (by simp) _).alloc (by simp <;> omega) _)
 have HW1 := Lib.hid hW1
 obtain ⟨ck, hck⟩ : ∃ ck, ck = chkX x := ⟨_, rfl⟩
 have CK : Hid (Calls Tryz.prog 15 #[.agg x.l.cells] W1 fun e w' => e = .returned (.int .i64 ck) ∧ Below W1.heap.size W1 w') := Lib.hid (by
  rw [hck]
  exact refCheck10_any x B W1 (hx.below (HB.out.mono hB)) (Nat.le_trans hB HB.out.size) hnx)
 have HCK := Lib.hid hck
 have x2 : W1.cell? ⟨w.heap.size + 1, 2, none⟩ = some (.int .i64 x.l.tw) := HL.out.cell 2
 have HFI := Lib.hid hfi
 have HD := Lib.hid h
 have HXI := Lib.hid hx
 have HVS := Lib.hid hvs
 have HKK := Lib.hid hk
 have hkk : k < 4294967296 := by have : c.op.key ≤ 4294967295 := h.op.wf.key.2; omega
 have hfe := hx.wf.fe
 have LN : Hid (∀ W, Below w.heap.size w W → Calls Tryz.prog 81 #[.slice d.lA d.ln d.lc, .agg #[.int .i64 x.l.fc, .int .u64 x.l.fe, .slice x.l.fA x.l.fn x.l.fp, .bool x.l.ff, .int .i64 x.l.fj]] W fun e w' => RLPost d.lA d.ln l x.conf W e w') := Lib.hid (fun W h9 => by
  rw [← conf_agg x hfe.1]
  exact refLearn_any d.lA d.ln d.lc B B l x.conf W (h.cf.below (h9.mono hB)) (Nat.le_trans hB h9.size) (hx.below (h9.mono hB)).conf (Nat.le_trans hB h9.size) (by have := h.len; omega) h.lc.1 h.lc.2)
 clear hk hvs
 clear hW1 hck hfi h hx
 go_enter Tryz.func26, Tryz.ntmps26
 go_upto_region 1 with (fail)
 have e0 := HW1.out
 simp only [Lt.cells] at e0
 first | rw [← e0] | rw [← HW1.out]
 clear e0 HW1
 iterate 1 go_step
 refine wpList_load_row rfl 37 (.tmp 3) rfl (w.heap.size + 1) rfl 37 x.l.cells (0, 0) _ HL.out Tryz.underlying37 rfl ltInfo ?_
 go_wp2_with (fail)
 refine CK.out.mono ?_
 rintro e w2 ⟨rfl, hb2⟩
 have HX2 := Lib.hid (HX.out.below hb2 HX.out.lt)
 have HL2 := Lib.hid (HL.out.below hb2 HL.out.lt)
 have HR2 := Lib.hid (HR.out.below hb2 HR.out.lt)
 have HB2 := Lib.hid (HB.out.trans (hb2.mono HB.out.size))
 clear hb2 CK HX HL HR HB x2
 have x2 : w2.cell? ⟨w.heap.size + 1, 2, none⟩ = some (.int .i64 x.l.tw) := HL2.out.cell 2
 have y0 : w2.cell? ⟨w.heap.size, 0, none⟩ = some (.int .i64 c.cl) := HX2.out.cell 0
 have e2 : IntKind.i64.wrap (200 + (c.cl : Int)) = 200 + (c.cl : Int) := by rw [IntKind.wrap_i64]; omega
 have q1 : (ck != 0) = false := by rw [HCK.out, HFI.out.1]; rfl
 have q2 : (x.l.tw != 200 + (c.cl : Int)) = false := by rw [HFI.out.2]; simp
 have x0 : w2.cell? ⟨w.heap.size + 1, 0, none⟩ = some (.int .i64 x.l.kd) := HL2.out.cell 0
 have q3 : (x.l.kd == 11) = true := by simp [hk11]
 have x17 : w2.cell? ⟨w.heap.size + 1, 17, none⟩ = some (.int .i64 x.l.fc) := HL2.out.cell 17
 have x18 : w2.cell? ⟨w.heap.size + 1, 18, none⟩ = some (.int .u64 x.l.fe) := HL2.out.cell 18
 have x19 : w2.cell? ⟨w.heap.size + 1, 19, none⟩ = some (.slice x.l.fA x.l.fn x.l.fp) := HL2.out.cell 19
 have x20 : w2.cell? ⟨w.heap.size + 1, 20, none⟩ = some (.bool x.l.ff) := HL2.out.cell 20
 have x21 : w2.cell? ⟨w.heap.size + 1, 21, none⟩ = some (.int .i64 x.l.fj) := HL2.out.cell 21
 have y4 : w2.cell? ⟨w.heap.size, 4, none⟩ = some (.slice d.lA d.ln d.lc) := HX2.out.cell 4
 clear hk11
 go_upto_region 4 with (fail)
 go_wp2_with (fail)
 refine (LN.out _ HB2.out).mono ?_
 rintro e w5 ⟨hb5, A', c', l', rfl, hcf, hval, hc1, hc2, hA, hmem⟩
 have s5 := HB2.out.size
 have HX5 := Lib.hid (HX2.out.below hb5 HX2.out.lt)
 have HL5 := Lib.hid (HL2.out.below hb5 HL2.out.lt)
 have HR5 := Lib.hid (HR2.out.below hb5 HR2.out.lt)
 have HB5 := Lib.hid (HB2.out.trans (hb5.mono HB2.out.size))
 have HW5 : Hid (∀ W, Chg w5 W (fun i => i = w.heap.size ∨ i = w.heap.size + 2) → CfsIn W w5.heap.size A' d.ln l') := Lib.hid (fun W hc => by
  have l0 := HX2.out.lt
  have l2 := HR2.out.lt
  refine cfs_chg hcf hc (Nat.le_refl _) (fun ad h0 e => ?_) (fun z hz ad h0 e => ?_)
  ·rcases hA with hA | ⟨g, hA, hg⟩
   ·have := reads_lt HD.out.cf.rd ad h0 (by rw [← hA]; exact e)
    omega
   ·rw [hA] at e
    injection e with e
    subst e
    simp only
    omega
  ·rcases hmem z hz with hz | hz
   ·have := reads_lt (HD.out.cf.mem z hz).rd ad h0 e
    omega
   ·subst hz
    have := reads_lt HXI.out.conf.rd ad h0 e
    omega)
 have hW0 : w.heap.size < w5.heap.size := HX5.out.lt
 have HAA : Hid (A' = d.lA ∨ ∃ g, A' = some ⟨g, 0, none⟩ ∧ w.heap.size ≤ g) := Lib.hid (by
  rcases hA with hA | ⟨g, hA, hg⟩
  ·exact .inl hA
  ·exact .inr ⟨g, hA, Nat.le_trans s5 hg⟩)
 have HMM := Lib.hid hmem
 have HVV := Lib.hid hval
 have HLL : Hid (l'.length = l.length) := Lib.hid (by have := congrArg List.length hval; rw [learnV_len] at this; simpa using this)
 have HVS2 : Hid (VsOk (l'.map Cf.val)) := Lib.hid (by
  rw [hval]
  exact HVS.out.learn HXI.out.conf.len_eq (by show x.l.fe.toNat ≤ _; omega))
 clear hb5 hcf hval hA hmem s5 LN HX2 HL2 HR2 HB2 x0 x2 x17 x18 x19 x20 x21 y0 y4
 have y4 : w5.cell? ⟨w.heap.size, 4, none⟩ = some (.slice d.lA d.ln d.lc) := HX5.out.cell 4
 have f4 := HX5.out.frozen 4
 obtain ⟨is, his⟩ : ∃ is, is = learnB (l.map Cf.val) x.conf := ⟨_, rfl⟩
 have HIS := Lib.hid his
 rw [← his]
 obtain ⟨W6, hW6⟩ : ∃ W6, W6 = w5.setCell ⟨w.heap.size, 4, none⟩ (.slice A' d.ln c') := ⟨_, rfl⟩
 have HX6 : Hid (Blk W6 w.heap.size 62 (c.dcells (d.learnt A' c'))) := Lib.hid (by rw [hW6]; exact HX5.out.set_ 4 _)
 have HR6 : Hid (Blk W6 (w.heap.size + 2) 62 #[.int .i64 0, .int .i64 0, .int .u64 0, .int .i64 0, .slice none 0 0, .int .i64 0, .int .u32 0, .int .u64 0, .slice none 0 0, .int .i64 0, .int .i64 0, .int .i64 0, .int .u64 0, .slice none 0 0, .int .u64 0, .int .i64 0, .int .u64 0, .slice none 0 0]) := Lib.hid (by rw [hW6]; exact HR5.out.far (p := ⟨w.heap.size, 4, none⟩) (by simp) _)
 have HL6 : Hid (Blk W6 (w.heap.size + 1) 37 x.l.cells) := Lib.hid (by rw [hW6]; exact HL5.out.far (p := ⟨w.heap.size, 4, none⟩) (by simp) _)
 have HB6 : Hid (Below w.heap.size w W6) := Lib.hid (by rw [hW6]; exact below_put HB5.out HB5.out.size (Nat.le_refl _) 4 _)
 have HC6 : Hid (Chg w5 W6 (fun i => i = w.heap.size ∨ i = w.heap.size + 2)) := Lib.hid (by rw [hW6]; exact (chg_one w5 ⟨w.heap.size, 4, none⟩ _).mono (fun _ _ e => .inl e))
 have HW6 := Lib.hid hW6
 clear hW6 his
 go_upto_region 6 with (fail)
 rw [← HW6.out]
 clear HW6 HX5 HR5 HL5 HB5 y4 f4
 have y10 : W6.cell? ⟨w.heap.size, 10, none⟩ = some (.int .i64 c.st) := HX6.out.cell 10
 have x17 : W6.cell? ⟨w.heap.size + 1, 17, none⟩ = some (.int .i64 x.l.fc) := HL6.out.cell 17
 have hbx := HX6.out
 have HX : Hid (Blk W6.drew w.heap.size 62 (c.dcells (d.learnt A' c'))) := Lib.hid HX6.out.drew
 have HR : Hid (Blk W6.drew (w.heap.size + 2) 62 #[.int .i64 0, .int .i64 0, .int .u64 0, .int .i64 0, .slice none 0 0, .int .i64 0, .int .u32 0, .int .u64 0, .slice none 0 0, .int .i64 0, .int .i64 0, .int .i64 0, .int .u64 0, .slice none 0 0, .int .u64 0, .int .i64 0, .int .u64 0, .slice none 0 0]) := Lib.hid HR6.out.drew
 have HL : Hid (Blk W6.drew (w.heap.size + 1) 37 x.l.cells) := Lib.hid HL6.out.drew
 have HB : Hid (Below w.heap.size w W6.drew) := Lib.hid HB6.out.drew
 have HC : Hid (Chg w5 W6.drew (fun i => i = w.heap.size ∨ i = w.heap.size + 2)) := Lib.hid (HC6.out.trans (Chg.of_below (Below.refl _ _).drew _) (fun _ _ e => e))
 refine wp_region_held_drew (S := fun wq => Blk wq w.heap.size 62 (c.dcells (d.learnt A' c')) ∧ wq.cell? ⟨w.heap.size, 10, none⟩ = some (.int .i64 c.st) ∧ wq.cell? ⟨w.heap.size + 1, 17, none⟩ = some (.int .i64 x.l.fc)) (by kernel_rfl) ⟨hbx, y10, x17⟩ (fun hHeld => ?_)
 clear HX6 HR6 HL6 HB6 HC6 hbx y10 x17
 generalize W6.drew = Vd at *
 cases is
 ·have hnow : ¬ AskNow (l.map Cf.val) k c x.conf := fun e => by have := e.1; rw [← HIS.out] at this; cases this
  have HNOW := Lib.hid hnow
  clear hnow
  refine tkT 0 rfl (v := ?_) ?_ ?_
  rotate_left 1
  ·(intro wq hSw; (try dsimp only at hSw); go_simp; (try with_reducible rfl))
  try simp only [Act.put, pS]
  refine tkT 1 rfl (v := ?_) ?_ ?_
  rotate_left 1
  ·(intro wq hSw; (try dsimp only at hSw); go_simp; (try with_reducible rfl))
  try simp only [Act.put, pS]
  refine wpAnyH_take (i := 2) (v := undef) rfl (by kernel_rfl) (by kernel_rfl) (by kernel_rfl) (fun _ _ _ h => h) (Or.inr ⟨by rfl, rfl⟩) (by assumption) ?_
  try simp only [Act.put, pS]
  refine wpAnyH_take (i := 3) (v := undef) rfl (by kernel_rfl) (by kernel_rfl) (by kernel_rfl) (fun _ _ _ h => h) (Or.inr ⟨by rfl, rfl⟩) (by assumption) ?_
  try simp only [Act.put, pS]
  refine wpAnyH_take (i := 4) (v := undef) rfl (by kernel_rfl) (by kernel_rfl) (by kernel_rfl) (fun _ _ _ h => h) (Or.inr ⟨by rfl, rfl⟩) (by assumption) ?_
  exact rp12
 by_cases hst : c.st = 1
 rotate_left
 ·have q4 : ((c.st : Int) == 1) = false := by simp; omega
  have hnow : ¬ AskNow (l.map Cf.val) k c x.conf := fun e => hst e.2.1
  have HNOW := Lib.hid hnow
  clear hnow hst
  refine tkT 0 rfl (v := ?_) ?_ ?_
  rotate_left 1
  ·(intro wq hSw; (try dsimp only at hSw); go_simp; (try with_reducible rfl))
  try simp only [Act.put, pS]
  refine tkT 1 rfl (v := ?_) ?_ ?_
  rotate_left 1
  ·(intro wq hSw; (try dsimp only at hSw); go_simp; (try with_reducible rfl))
  try simp only [Act.put, pS]
  refine tkT 2 rfl (v := ?_) ?_ ?_
  rotate_left 1
  ·(intro wq hSw; (try dsimp only at hSw); go_simp; (try with_reducible rfl))
  try simp only [Act.put, pS]
  refine tkT 3 rfl (v := ?_) ?_ ?_
  rotate_left 1
  ·(intro wq hSw; (try dsimp only at hSw); go_simp; (try with_reducible rfl))
  try simp only [Act.put, pS]
  refine tkT 4 rfl (v := ?_) ?_ ?_
  rotate_left 1
  ·(intro wq hSw; (try dsimp only at hSw); go_simp; (try with_reducible rfl))
  exact rp12
 have q4 : ((c.st : Int) == 1) = true := by simp; omega
 have HST := Lib.hid hst
 clear hst
 have HDI : Hid (∀ W, Below w.heap.size w W → Chg w5 W (fun i => i = w.heap.size ∨ i = w.heap.size + 2) → DIn W w5.heap.size c (d.learnt A' c') l') := Lib.hid (fun W hb hc => by
  have hb' := hb.mono hB
  have hB5 : B ≤ w5.heap.size := Nat.le_trans hB (Nat.le_of_lt hW0)
  exact ⟨HW5.out W hc, ⟨hc1, hc2⟩, (HD.out.op.below hb').more hB5, (HD.out.rp.below hb').more hB5, HD.out.rc, (HD.out.ly.below hb').more hB5, HD.out.yc⟩)
 have CH := Lib.hid (fun W (hb : Below w.heap.size w W) (hc : Chg w5 W (fun i => i = w.heap.size ∨ i = w.heap.size + 2)) => dchain_any c (d.learnt A' c') l' k w5.heap.size W (HDI.out W hb hc) hc.size HKK.out hkk (by rw [HLL.out]; exact h1) (by rw [HLL.out]; exact h4))
 have AS := Lib.hid (fun W (hb : Below w.heap.size w W) (hc : Chg w5 W (fun i => i = w.heap.size ∨ i = w.heap.size + 2)) => dask_any c (d.learnt A' c') l' k w5.heap.size W (HDI.out W hb hc) hc.size B (HD.out.op.below (hb.mono hB)) (Nat.le_trans hB hb.size) HKK.out hkk (by rw [HLL.out]; exact h1) (by rw [HLL.out]; exact h4) HVS2.out hcl hnum hn)
 have hfd := fld_ch
 refine tkT 0 rfl (v := ?_) ?_ ?_
 rotate_left 1
 ·(intro wq hSw; (try dsimp only at hSw); go_simp; (try with_reducible rfl))
 try simp only [Act.put, pS]
 refine tkT 1 rfl (v := ?_) ?_ ?_
 rotate_left 1
 ·(intro wq hSw; (try dsimp only at hSw); go_simp; (try with_reducible rfl))
 try simp only [Act.put, pS]
 refine tkT 2 rfl (v := ?_) ?_ ?_
 rotate_left 1
 ·(intro wq hSw; (try dsimp only at hSw); go_simp; (try with_reducible rfl))
 try simp only [Act.put, pS]
 refine tkT 3 rfl (v := ?_) ?_ ?_
 rotate_left 1
 ·(intro wq hSw; (try dsimp only at hSw); go_simp; (try with_reducible rfl))
 try simp only [Act.put, pS]
 refine tkT 4 rfl (v := ?_) ?_ ?_
 rotate_left 1
 ·(intro wq hSw; (try dsimp only at hSw); go_simp; (try with_reducible rfl))
 try simp only [Act.put, pS]
 refine tkT 5 rfl (v := ?_) ?_ ?_
 rotate_left 1
 ·(intro wq hSw; (try dsimp only at hSw); go_simp; (try with_reducible rfl))
 try simp only [Act.put, pS]
 refine tkT 6 rfl (v := ?_) ?_ ?_
 rotate_left 1
 ·(intro wq hSw; (try dsimp only at hSw); go_simp; (try with_reducible rfl))
 try simp only [Act.put, pS]
 refine tkT 7 rfl (v := (.agg (c.dcells (d.learnt A' c')))) ?_ ?_
 ·exact fun wq hSw => exec_load_row rfl _ rfl (load_dc c (d.learnt A' c') _ wq hSw.1)
 try simp only [Act.put, pS]
 refine tkT 10 rfl (v := ?_) ?_ ?_
 rotate_left 1
 ·(intro wq hSw; (try dsimp only at hSw); go_simp; (try with_reducible rfl))
 try simp only [Act.put, pS]
 refine tkT 11 rfl (v := ?_) ?_ ?_
 rotate_left 1
 ·(intro wq hSw; (try dsimp only at hSw); go_simp; (try with_reducible rfl))
 try simp only [Act.put, pS]
 refine tkT 12 rfl (v := ?_) ?_ ?_
 rotate_left 1
 ·(intro wq hSw; (try dsimp only at hSw); go_simp; (try with_reducible rfl))
 try simp only [Act.put, pS]
 refine wpAnyH_ready (rs := [8]) (by kernel_rfl) (by simp) ?_
 refine (AllReadyH.cons rfl (fun K hK => ?_) AllReadyH.nil)
 go_simp
 refine (CH.out _ HB.out HC.out).mono ?_
 rintro e x8 ⟨y, rfl, hyl, h9⟩
 have HYL : Hid ((learnV (l.map Cf.val) x.conf)[(chainV k (learnV (l.map Cf.val) x.conf).length).toNat]? = some y.val) := Lib.hid (by rw [← HVV.out, List.length_map, List.getElem?_map, hyl]; rfl)
 obtain ⟨bq, hbq⟩ : ∃ bq, bq = (y.ch == x.l.fc) := ⟨_, rfl⟩
 have q9 : (y.ch == x.l.fc) = bq := hbq.symm
 have HBQ := Lib.hid hbq
 replace HB := Lib.hid (HB.out.trans (h9.mono HB.out.size))
 replace HC := Lib.hid (HC.out.trans (Chg.of_below h9 _) (fun _ _ e => e))
 replace HX := Lib.hid (HX.out.below h9 HX.out.lt)
 replace HR := Lib.hid (HR.out.below h9 HR.out.lt)
 replace HL := Lib.hid (HL.out.below h9 HL.out.lt)
 have HS : Blk x8 w.heap.size 62 (c.dcells (d.learnt A' c')) ∧ x8.cell? ⟨w.heap.size, 10, none⟩ = some (.int .i64 c.st) ∧ x8.cell? ⟨w.heap.size + 1, 17, none⟩ = some (.int .i64 x.l.fc) := ⟨HX.out, HX.out.cell 10, HL.out.cell 17⟩
 clear h9 hyl hbq
 refine hK.out _ _ ?_ (fun hHeld => ?_)
 ·first | exact HS | go_keep
 clear hK K
 try simp only [Act.put, pS]
 refine tkT 9 rfl (v := ?_) ?_ ?_
 rotate_left 1
 ·(intro wq hSw; (try dsimp only at hSw); go_simp; (try with_reducible rfl))
 try simp only [Act.put, pS]
 refine tkT 13 rfl (v := ?_) ?_ ?_
 rotate_left 1
 ·(intro wq hSw; (try dsimp only at hSw); go_simp; (try with_reducible rfl))
 try simp only [Act.put, pS]
 refine tkT 14 rfl (v := ?_) ?_ ?_
 rotate_left 1
 ·(intro wq hSw; (try dsimp only at hSw); go_simp; (try with_reducible rfl))
 try simp only [Act.put, pS]
 refine wpAnyH_done (by kernel_rfl) ?_ _
 skip
 clear HS hHeld q9 hfd
 cases bq
 ·have hnow : ¬ AskNow (l.map Cf.val) k c x.conf := fun e => by
   obtain ⟨v, h1, h2⟩ := e.2.2
   rw [HYL.out] at h1
   injection h1 with h1
   rw [← h1] at h2
   have h2 : y.ch = x.l.fc := h2
   have := HBQ.out
   rw [h2] at this
   simp at this
  have HNOW := Lib.hid hnow
  clear hnow
  go_upto_region 8 with (fail)
  iterate 1 go_step
  refine wpList_load_row rfl 62 (.tmp 2) rfl w.heap.size rfl 62 (c.dcells (d.learnt A' c')) (0, 0) _ HX.out Tryz.underlying62 rfl dcInfo ?_
  refine wpList_store_row rfl 62 (.tmp 4) (.tmp 51) rfl (w.heap.size + 2) (c.dcells (d.learnt A' c')) rfl rfl 62 #[.int .i64 0, .int .i64 0, .int .u64 0, .int .i64 0, .slice none 0 0, .int .i64 0, .int .u32 0, .int .u64 0, .slice none 0 0, .int .i64 0, .int .i64 0, .int .i64 0, .int .u64 0, .slice none 0 0, .int .u64 0, .int .i64 0, .int .u64 0, .slice none 0 0] HR.out dcInfo rfl (dc_all _ _) ?_
  have HR3 := Lib.hid (show Blk (World.setRow x8 (w.heap.size + 2) (c.dcells (d.learnt A' c'))) (w.heap.size + 2) 62 (c.dcells (d.learnt A' c')) from setRow_heap _ _ _ _ _ _ HR.out)
  have HB3 := Lib.hid (setRow_below HB.out HB.out.size (Nat.le_add_right _ 2) (g := w.heap.size + 2) (c.dcells (d.learnt A' c')))
  have HCR : Chg x8 (World.setRow x8 (w.heap.size + 2) (c.dcells (d.learnt A' c'))) (fun i => i = w.heap.size ∨ i = w.heap.size + 2) := (chg_row9 _ _ _).mono (fun _ _ e => .inr e)
  generalize World.setRow x8 (w.heap.size + 2) (c.dcells (d.learnt A' c')) = W3 at *
  go_wp2_with (fail)
  refine bodyPost_ret_by (results_cell_row_tmp Tryz.results26 _ _ (w.heap.size + 2) 62 (c.dcells (d.learnt A' c')) (0, 0) _ _ rfl HR3.out rfl Tryz.underlying62 rfl dcInfo) rfl ?_
  exact ⟨HB3.out, A', c', l', (HW5.out _ (HC.out.trans HCR (fun _ _ e => e))).more (Nat.le_trans HC.out.size HCR.size), HVV.out, ⟨hc1, hc2⟩, HAA.out, HMM.out, .inr ⟨HNOW.out, rfl⟩⟩
 have HNOW : Hid (AskNow (l.map Cf.val) k c x.conf) := Lib.hid ⟨HIS.out.symm, HST.out, y.val, HYL.out, by have := HBQ.out; show y.ch = x.l.fc; simpa using this.symm⟩
 go_upto_region 7 with (fail)
 have hbx := HX.out.drew
 refine wp_region_held_drew (S := fun wq => Blk wq w.heap.size 62 (c.dcells (d.learnt A' c')) ∧ True) (by kernel_rfl) ⟨HX.out, trivial⟩ (fun hHeld => ?_)
 replace HB := Lib.hid HB.out.drew
 replace HC := Lib.hid (HC.out.trans (Chg.of_below (Below.refl _ _).drew _) (fun _ _ e => e))
 replace HX := Lib.hid HX.out.drew
 replace HR := Lib.hid HR.out.drew
 have lr : w.heap.size + 2 < x8.drew.heap.size := HR.out.lt
 clear hbx HL
 generalize x8.drew = Vd at *
 refine tkT 0 rfl (v := (.agg (c.dcells (d.learnt A' c')))) ?_ ?_
 ·exact fun wq hSw => exec_load_row rfl _ rfl (load_dc c (d.learnt A' c') _ wq hSw.1)
 try simp only [Act.put, pS]
 refine tkT 1 rfl (v := (.agg (c.dcells (d.learnt A' c')))) ?_ ?_
 ·exact fun wq hSw => exec_load_row rfl _ rfl (load_dc c (d.learnt A' c') _ wq hSw.1)
 try simp only [Act.put, pS]
 refine wpAnyH_ready (rs := [2]) (by kernel_rfl) (by simp) ?_
 refine (AllReadyH.cons rfl (fun K hK => ?_) AllReadyH.nil)
 go_simp
 refine (AS.out _ HB.out HC.out).mono ?_
 rintro e x2 ⟨q1, xx, rfl, hq1, hbk1, hin1, hnr1, hof1, h9⟩
 have hqs := HB.out.size
 have hqW : w.heap.size ≤ q1 := Nat.le_trans hqs hq1
 have hqr : w.heap.size + 2 < q1 := Nat.lt_of_lt_of_le lr hq1
 have HIN : Hid (∀ W, Chg x2 W (fun i => i = w.heap.size + 2) → LIn W q1 xx) := Lib.hid (fun W hc => hin1 W (hc.mono (fun i hi e => .inl (by omega))))
 have HNR : Hid (xx.near ∧ AskOf (l'.map Cf.val) k c xx.val) := Lib.hid ⟨hnr1, hof1⟩
 have HN := Lib.hid hbk1
 clear hbk1 hin1 hnr1 hof1 hq1 hqs lr
 replace HB := Lib.hid (HB.out.trans (h9.mono HB.out.size))
 replace HC := Lib.hid (HC.out.trans (Chg.of_below h9 _) (fun _ _ e => e))
 replace HX := Lib.hid (HX.out.below h9 HX.out.lt)
 replace HR := Lib.hid (HR.out.below h9 HR.out.lt)
 have HS : Blk x2 w.heap.size 62 (c.dcells (d.learnt A' c')) ∧ True := ⟨HX.out, trivial⟩
 clear h9
 refine hK.out _ _ ?_ (fun hHeld => ?_)
 ·first | exact HS | go_keep
 clear hK K
 try simp only [Act.put, pS]
 refine wpAnyH_ready (rs := [3]) (by kernel_rfl) (by simp) ?_
 refine (AllReadyH.cons rfl (fun K hK => ?_) AllReadyH.nil)
 have hcg : Chg x2 (World.setRow x2 (w.heap.size + 2) (c.dcells (d.learnt A' c'))) (fun i => i = w.heap.size + 2) := chg_row9 _ _ _
 replace HB : Hid (Below w.heap.size w (World.setRow x2 (w.heap.size + 2) (c.dcells (d.learnt A' c')))) := Lib.hid (setRow_below HB.out HB.out.size (Nat.le_add_right _ 2) _)
 replace HC := Lib.hid (HC.out.trans (hcg.mono (fun _ _ e => Or.inr e)) (fun _ _ e => e))
 replace HX := Lib.hid (hcg.blk HX.out (by simp))
 have HR0 := HR
 replace HR : Hid (Blk (World.setRow x2 (w.heap.size + 2) (c.dcells (d.learnt A' c'))) (w.heap.size + 2) 62 (c.dcells (d.learnt A' c'))) := Lib.hid (setRow_heap _ _ _ _ _ _ HR0.out)
 replace HIN := Lib.hid (HIN.out _ hcg)
 replace HN := Lib.hid (hcg.blk HN.out (by omega))
 have HS : Blk (World.setRow x2 (w.heap.size + 2) (c.dcells (d.learnt A' c'))) w.heap.size 62 (c.dcells (d.learnt A' c')) ∧ True := ⟨HX.out, trivial⟩
 clear hcg
 refine step_store_row rfl 62 (.tmp 4) (.tmp 48) rfl (w.heap.size + 2) (c.dcells (d.learnt A' c')) rfl rfl 62 #[.int .i64 0, .int .i64 0, .int .u64 0, .int .i64 0, .slice none 0 0, .int .i64 0, .int .u32 0, .int .u64 0, .slice none 0 0, .int .i64 0, .int .i64 0, .int .i64 0, .int .u64 0, .slice none 0 0, .int .u64 0, .int .i64 0, .int .u64 0, .slice none 0 0] HR0.out dcInfo rfl (dc_all _ _) ?_
 refine hK.out _ _ ?_ (fun hHeld => ?_)
 ·first | exact HS | go_keep
 clear hK K
 generalize (World.setRow x2 (w.heap.size + 2) (c.dcells (d.learnt A' c'))) = Vs at *
 try simp only [Act.put, pS]
 refine tkT 4 rfl (v := ?_) ?_ ?_
 rotate_left 1
 ·(intro wq hSw; (try dsimp only at hSw); go_simp; (try with_reducible rfl))
 try simp only [Act.put, pS]
 refine wpAnyH_done (by kernel_rfl) ?_ _
 go_wp2_with (fail)
 refine bodyPost_ret_by (results_cell_row_tmp Tryz.results26 _ _ (w.heap.size + 2) 62 (c.dcells (d.learnt A' c')) (0, 0) _ _ rfl HR.out rfl Tryz.underlying62 rfl dcInfo) rfl ?_
 exact ⟨HB.out, A', c', l', (HW5.out _ HC.out).more HC.out.size, HVV.out, ⟨hc1, hc2⟩, HAA.out, HMM.out, .inl ⟨HNOW.out, q1, xx, rfl, hqW, HN.out, HIN.out, HNR.out.1, by rw [← HVV.out]; exact HNR.out.2⟩⟩
end Go.Proofs.YtmpedblelnpjdaaGreatDoor
