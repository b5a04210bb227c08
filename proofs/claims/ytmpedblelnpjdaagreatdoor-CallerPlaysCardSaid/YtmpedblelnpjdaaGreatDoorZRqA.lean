/- update.Request (printed by rqgen.py). -/
import Derived.Test.YtmpedblelnpjdaaGreatDoorZGN
import Derived.Test.YtmpedblelnpjdaaGreatDoorZTq
import Derived.Test.YtmpedblelnpjdaaGreatDoorZGC
namespace Go.Proofs.YtmpedblelnpjdaaGreatDoor
open Go.RowKit
set_option linter.unusedSimpArgs false
set_option linter.unusedVariables false
set_option maxHeartbeats 8000000
set_option maxRecDepth 100000
attribute [local go_sem] Up.agg Up.cells
theorem up_cells {w : World} {g : Nat} {t : TypeId} {u : Up} (h : Blk w g t u.cells) : w.cell? ⟨g, 0, none⟩ = some (.int .u64 u.seq) ∧ w.cell? ⟨g, 1, none⟩ = some (.int .i64 u.cl) ∧ w.cell? ⟨g, 2, none⟩ = some (.int .u64 u.num) ∧
  w.cell? ⟨g, 3, none⟩ = some (.int .i64 u.kd) ∧ w.cell? ⟨g, 4, none⟩ = some (.int .u32 u.key) ∧ w.cell? ⟨g, 5, none⟩ = some (.int .u64 u.ver) ∧ w.cell? ⟨g, 6, none⟩ = some (.slice u.A u.n u.c) :=
 ⟨h.cell 0, h.cell 1, h.cell 2, h.cell 3, h.cell 4, h.cell 5, h.cell 6⟩
theorem bclone_any (A : Option Addr) (n c B : Nat) (b : List Int) (w : World) (hB : B ≤ w.heap.size) (hr : Reads w B 1 A n (b.map (Value.int .u8))) (hn : n ≤ 1000000000) :
  Calls Tryz.prog 75 #[.slice A n c] w fun e w' => ∃ v, e = .returned v ∧ w'.ownsRow w.heap.size 5 1 v n (b.map (Value.int .u8)) ∧ Below w.heap.size w w' := by
 obtain ⟨i0, hi, hz0, hz1, hz2⟩ := info_parts byteInfo
 have HR := Lib.hid hr
 have hnil := fun w => Lib.run_eql_slice_nil (P := Tryz.prog) w 22 5 A n c 0 0 Tryz.underlying22
 rcases A with _ | ad
 ·have h0 : n = 0 := by
   rcases Nat.eq_zero_or_pos n with h | h
   ·exact h
   ·obtain ⟨ad, h, _⟩ := hr.2 h; cases h
  subst h0
  have hb0 : b = [] := by have := hr.1; simpa using this
  subst hb0
  clear hr
  go_enter Tryz.func75, Tryz.ntmps75
  go_wp2
  go_ret
  exact ⟨_, rfl, World.ownsRow_nil _ _ _ _, Below.refl _ _⟩
 ·clear hr
  go_enter Tryz.func75, Tryz.ntmps75
  go_wp2_with (at_builtin; go_must (refine wpList_append_any _ rfl (.tmp 5) (.tmp 6) _ rfl w.heap.size 5 i0 _ 1 1 Tryz.underlying22 hi hz0 hz1 hz2 rfl (by omega) _ _ _ rfl (World.ownsRow_made w #[] 0 (Nat.le_refl _) (by decide) rfl) B (some ad) n c (b.map (Value.int .u8)) rfl (Reads.alloc HR.out hB _) ?c1 ?c2 ?c3 ?c4 ?_))
  case c1 => exact u8_one b
  case c2 => unfold maxLen; omega
  case c3 => omega
  case c4 => simp
  exact rp75
def writesB (k : Int) : Bool := decide (k = 2 ∨ k = 3)
theorem writes_any (k : Int) (w : World) : Calls Tryz.prog 319 #[.int .i64 k] w fun e w' => e = .returned (.bool (writesB k)) ∧ w = w' := by
 by_cases h2 : k = 2
 ·subst h2
  go_enter Tryz.func319, Tryz.ntmps319
  go_wp2
  go_ret
  exact ⟨rfl, rfl⟩
 by_cases h3 : k = 3
 ·subst h3
  go_enter Tryz.func319, Tryz.ntmps319
  go_wp2
  go_ret
  exact ⟨rfl, rfl⟩
 have hv : Hid (false = writesB k) := Lib.hid (by simp [writesB, h2, h3])
 have k2 : (k == 2) = false := by simp [h2]
 have k3 : (k == 3) = false := by simp [h3]
 clear h2 h3
 go_enter Tryz.func319, Tryz.ntmps319
 go_wp2
 go_ret
 exact ⟨ret_bool hv.out, rfl⟩
def uLt (k : Int) (A : Option Addr) (c : Nat) : Lt := ⟨k, 1, 1, 0, 1, 0, 0, 0, 0, 0, 0, 0, 0, 0, 0, 0, 0, 0, 0, none, 0, 0, false, 0, none, 0, 0, A, 1, c, none, 0, 0⟩
open Classical in
theorem chk_uLt (k : Int) (hk : k = 12 ∨ k = 17) (A : Option Addr) (c : Nat) (u : Up) : chkX ⟨uLt k A c, [], [], [u], []⟩ = chkR (upOkB u (k == 17)) := by
 have key : ∀ (b : Bool) (P : Prop) [Decidable P], (P ↔ b = true) → (if P then (0 : Int) else 4) = chkR b := fun b P _ h => by
  unfold chkR
  by_cases hp : P
  ·rw [if_pos hp, if_pos (h.1 hp)]
  ·rw [if_neg hp, if_neg (fun e => hp (h.2 e))]
 rcases hk with rfl | rfl
 ·unfold chkX
  rw [if_neg (by simp only [uLt]; omega)]
  refine key _ _ ⟨fun h => ?_, fun h => ?_⟩
  ·have := List.all_eq_true.1 h.2.2.2 13 (show 13 ∈ partsI 12 by decide)
   have e : updsB 12 [u] = true := this
   unfold updsB upsOk at e
   simp at e
   simpa using e
  ·refine ⟨rfl, rfl, ?_, ?_⟩
   ·unfold sameB
    rw [decide_eq_true_eq]
    have f13 : partF 12 15 13 = true := by decide
    have f0 : partF 12 15 0 = true := by decide
    have f1 : partF 12 15 1 = true := by decide
    simp only [LV.mask, Lt.mask, LV.val, uLt, show (12 : Int).toNat = 12 from rfl, f13, f0, f1, if_true, ite_self, List.map_cons, List.map_nil]
   ·refine List.all_eq_true.2 (fun i hi => ?_)
    have hp : partsI (12 : Int).toNat = [0, 1, 3, 4, 13] := by decide
    have hi : i ∈ partsI (12 : Int).toNat := hi
    rw [hp] at hi
    simp only [List.mem_cons, List.not_mem_nil, or_false] at hi
    rcases hi with rfl | rfl | rfl | rfl | rfl
    ·simp [fineB, uLt]
    ·simp [fineB, uLt]
    ·rfl
    ·rfl
    ·show updsB 12 [u] = true
     unfold updsB upsOk
     simp
     simpa using h
 ·unfold chkX
  rw [if_neg (by simp only [uLt]; omega)]
  refine key _ _ ⟨fun h => ?_, fun h => ?_⟩
  ·have := List.all_eq_true.1 h.2.2.2 13 (show 13 ∈ partsI 17 by decide)
   have e : updsB 17 [u] = true := this
   unfold updsB upsOk at e
   simp at e
   simpa using e
  ·refine ⟨rfl, rfl, ?_, ?_⟩
   ·unfold sameB
    rw [decide_eq_true_eq]
    have f13 : partF 17 15 13 = true := by decide
    have f0 : partF 17 15 0 = true := by decide
    have f1 : partF 17 15 1 = true := by decide
    simp only [LV.mask, Lt.mask, LV.val, uLt, show (17 : Int).toNat = 17 from rfl, f13, f0, f1, if_true, ite_self, List.map_cons, List.map_nil]
   ·refine List.all_eq_true.2 (fun i hi => ?_)
    have hp : partsI (17 : Int).toNat = [0, 1, 13] := by decide
    have hi : i ∈ partsI (17 : Int).toNat := hi
    rw [hp] at hi
    simp only [List.mem_cons, List.not_mem_nil, or_false] at hi
    rcases hi with rfl | rfl | rfl
    ·simp [fineB, uLt]
    ·simp [fineB, uLt]
    ·show updsB 17 [u] = true
     unfold updsB upsOk
     simp
     simpa using h
theorem checkU_any (k : Int) (hk : k = 12 ∨ k = 17) (A : Option Addr) (B : Nat) (u : Up) (w : World) (hK : KindsAt w) (h : UpsIn w B A 1 [u]) (hB : B ≤ w.heap.size) (hn : u.n ≤ 1000000) :
  Calls Tryz.prog 49 #[(uLt k A 1).agg] w fun e w' => e = .returned (.int .i64 (chkR (upOkB u (k == 17)))) ∧ Below w.heap.size w w' := by
 have hx : LIn w B ⟨uLt k A 1, [], [], [u], []⟩ := ⟨Reads.none_, Reads.none_, h, Reads.none_, fun z hz => (by cases hz), by constructor <;> simp only [uLt] <;> omega, fun v hv => (by cases hv), fun v hv => (by cases hv), ⟨Nat.le_refl _, show (0 : Nat) ≤ maxLen by decide⟩, ⟨Nat.le_refl _, show (0 : Nat) ≤ maxLen by decide⟩, ⟨Nat.le_refl _, show (1 : Nat) ≤ maxLen by decide⟩, ⟨Nat.le_refl _, show (0 : Nat) ≤ maxLen by decide⟩⟩
 have := check_any ⟨uLt k A 1, [], [], [u], []⟩ B w hK hx hB ⟨fun v hv => (by simp only [List.mem_singleton] at hv; subst hv; exact hn), show (1 : Nat) ≤ 1000000 by decide, show (0 : Nat) ≤ 1000000 by decide, show (0 : Nat) ≤ 1000000 by decide, show (0 : Nat) ≤ 1000000 by decide⟩
 rwa [chk_uLt k hk A 1 u] at this
noncomputable def updE (u : Up) (r : Bool) : Int := if writesB u.kd = false then 1 else if 2048 < u.n then 6 else chkR (upOkB u r)
theorem upd_hdr (k : Int) (A : Option Addr) (c : Nat) (w : World) : (Instr.build 37 #[(0, .int .i64 k), (1, .int .i64 1), (2, .int .i64 1), (4, .int .u64 1), (16, .slice A 1 c)]).run Tryz.prog w = .ok (uLt k A c).agg w := by kernel_rfl
theorem ups_new (W : World) (u : Up) (B : Nat) (h : UpIn W B u) (hB : B ≤ W.heap.size) : UpsIn (W.alloc (.cells u.cells 145)) (W.alloc (.cells u.cells 145)).heap.size (some ⟨W.heap.size, 0, none⟩) 1 [u] :=
 ⟨⟨rfl, fun _ => ⟨_, rfl, by simp, fun j x hx => cells_new_at W u.cells 145 _ rfl j x (by simpa [Up.cells, Up.row] using hx)⟩⟩,
  fun x hx => by
   simp only [List.mem_cons, List.not_mem_nil, or_false] at hx
   subst hx
   exact ⟨(h.rd.alloc hB _).more (by simp; omega), h.hc, h.hm, h.wf⟩⟩
theorem updCheck_any (k : Int) (u : Up) (B : Nat) (w : World) (hk : k = 12 ∨ k = 17) (hK : KindsAt w) (h : UpIn w B u) (hB : B ≤ w.heap.size) (hn : u.n ≤ 1000000) :
  Calls Tryz.prog 293 #[u.agg, .int .i64 k] w fun e w' => e = .returned (.int .i64 (updE u (k == 17))) ∧ Below w.heap.size w w' := by
 have HB : Hid (Below w.heap.size w (w.alloc (.cells u.cells 145))) := Lib.hid (by repeat (first | with_reducible exact Below.refl _ _ | with_reducible refine Below.setCell ?_ (by first | omega | (simp <;> omega)) _ | with_reducible refine Below.alloc ?_ (by first | omega | (simp <;> omega)) _ | with_reducible refine below_drewN ?_ _ | with_reducible refine Below.drew ?_))
 have HW : Hid (writesB u.kd = false → updE u (k == 17) = 1) := Lib.hid (fun e => by unfold updE; rw [if_pos e])
 have HLL : Hid (writesB u.kd = true → 2048 < u.n → updE u (k == 17) = 6) := Lib.hid (fun e e2 => by unfold updE; rw [if_neg (by rw [e]; simp), if_pos e2])
 have HLC : Hid (writesB u.kd = true → ¬ 2048 < u.n → updE u (k == 17) = chkR (upOkB u (k == 17))) := Lib.hid (fun e e2 => by unfold updE; rw [if_neg (by rw [e]; simp), if_neg e2])
 have W1 := Lib.hid (writes_any u.kd)
 obtain ⟨b, hb⟩ : ∃ b, b = writesB u.kd := ⟨_, rfl⟩
 rw [← hb] at HW HLL HLC W1
 clear hb
 have HKK := Lib.hid hk
 have HU2 : Hid (UpsIn ((w.alloc (.cells u.cells 145)).alloc (.cells u.cells 145)) ((w.alloc (.cells u.cells 145)).alloc (.cells u.cells 145)).heap.size (some ⟨w.heap.size + 1, 0, none⟩) 1 [u]) :=
  Lib.hid (by
   have := ups_new (w.alloc (.cells u.cells 145)) u B ⟨h.rd.alloc hB _, h.hc, h.hm, h.wf⟩ (by simp; omega)
   simpa using this)
 have HB2 : Hid (Below w.heap.size w ((w.alloc (.cells u.cells 145)).alloc (.cells u.cells 145))) := Lib.hid (by repeat (first | with_reducible exact Below.refl _ _ | with_reducible refine Below.setCell ?_ (by first | omega | (simp <;> omega)) _ | with_reducible refine Below.alloc ?_ (by first | omega | (simp <;> omega)) _ | with_reducible refine below_drewN ?_ _ | with_reducible refine Below.drew ?_))
 have CK : Hid (Calls Tryz.prog 49 #[(uLt k (some ⟨w.heap.size + 1, 0, none⟩) 1).agg] ((w.alloc (.cells u.cells 145)).alloc (.cells u.cells 145)) fun e w' => e = .returned (.int .i64 (chkR (upOkB u (k == 17)))) ∧ Below ((w.alloc (.cells u.cells 145)).alloc (.cells u.cells 145)).heap.size ((w.alloc (.cells u.cells 145)).alloc (.cells u.cells 145)) w') := Lib.hid (by
  rcases hk with rfl | rfl
  ·exact checkU_any 12 (.inl rfl) _ _ u _ (hK.below HB2.out) HU2.out (Nat.le_refl _) hn
  ·exact checkU_any 17 (.inr rfl) _ _ u _ (hK.below HB2.out) HU2.out (Nat.le_refl _) hn)
 have hhdr := upd_hdr k
 clear hk hK h
 cases b with
 | false =>
  have HL6 := Lib.hid (HW.out rfl)
  go_enter Tryz.func293, Tryz.ntmps293
  go_wp2_with (fail)
  refine (W1.out _).mono ?_
  rintro e w1 ⟨rfl, rfl⟩
  go_wp2_with (fail)
  go_ret
  exact ⟨by rw [HL6.out]; rfl, HB.out⟩
 | true =>
  by_cases hl : (2048 : Int) < u.n
  ·have HL6 := Lib.hid (HLL.out rfl (by omega))
   go_enter Tryz.func293, Tryz.ntmps293
   go_wp2_with (fail)
   refine (W1.out _).mono ?_
   rintro e w1 ⟨rfl, rfl⟩
   go_wp2_with (fail)
   go_ret
   exact ⟨by rw [HL6.out]; rfl, HB.out⟩
  ·have HL6 := Lib.hid (HLC.out rfl (by omega))
   go_enter Tryz.func293, Tryz.ntmps293
   go_wp2_with (fail)
   refine (W1.out _).mono ?_
   rintro e w1 ⟨rfl, rfl⟩
   go_wp2_with (fail)
   refine CK.out.mono ?_
   rintro e w2 ⟨rfl, h2⟩
   have H3 := Lib.hid (HB2.out.trans (h2.mono HB2.out.size))
   clear h2
   go_wp2_with (fail)
   go_ret
   exact ⟨by rw [HL6.out]; rfl, H3.out⟩
theorem updAsked_any (u : Up) (B : Nat) (w : World) (hK : KindsAt w) (h : UpIn w B u) (hB : B ≤ w.heap.size) (hn : u.n ≤ 1000000) :
  Calls Tryz.prog 237 #[u.agg] w fun e w' => e = .returned (.int .i64 (updE u true)) ∧ Below w.heap.size w w' := by
 have HB : Hid (Below w.heap.size w (w.alloc (.cells u.cells 145))) := Lib.hid (by repeat (first | with_reducible exact Below.refl _ _ | with_reducible refine Below.setCell ?_ (by first | omega | (simp <;> omega)) _ | with_reducible refine Below.alloc ?_ (by first | omega | (simp <;> omega)) _ | with_reducible refine below_drewN ?_ _ | with_reducible refine Below.drew ?_))
 have C := Lib.hid (updCheck_any 17 u B _ (.inr rfl) (hK.below HB.out) (h.below (HB.out.mono hB)) (Nat.le_trans hB HB.out.size) hn)
 clear hK h
 go_enter Tryz.func237, Tryz.ntmps237
 go_wp2_with (fail)
 refine C.out.mono ?_
 rintro e w2 ⟨rfl, h2⟩
 have H3 := Lib.hid (HB.out.trans (h2.mono HB.out.size))
 clear h2
 go_wp2_with (fail)
 go_ret
 exact ⟨rfl, H3.out⟩
structure Opn where
 kd : Int
 key : Int
 ver : Int
 A : Option Addr
 n : Nat
 c : Nat
 pick : Int
 bs : List Int
def Opn.agg (o : Opn) : Value := .agg #[.int .i64 o.kd, .int .u32 o.key, .int .u64 o.ver, .slice o.A o.n o.c, .int .i64 o.pick]
def Opn.cells (o : Opn) : Array Value := #[.int .i64 o.kd, .int .u32 o.key, .int .u64 o.ver, .slice o.A o.n o.c, .int .i64 o.pick]
structure Opn.wf (o : Opn) : Prop where
 kd : -9223372036854775808 ≤ o.kd ∧ o.kd ≤ 9223372036854775807
 key : 0 ≤ o.key ∧ o.key ≤ 4294967295
 ver : 0 ≤ o.ver ∧ o.ver ≤ 18446744073709551615
 pick : -9223372036854775808 ≤ o.pick ∧ o.pick ≤ 9223372036854775807
 bs : ∀ z ∈ o.bs, 0 ≤ z ∧ z ≤ 255
structure OpIn (w : World) (B : Nat) (o : Opn) : Prop where
 rd : Reads w B 1 o.A o.n (o.bs.map (Value.int .u8))
 hc : o.n ≤ o.c
 hm : o.c ≤ maxLen
 wf : o.wf
theorem OpIn.below {w w' : World} {B : Nat} {o : Opn} (h : OpIn w B o) (hb : Below B w w') : OpIn w' B o := ⟨h.rd.below hb, h.hc, h.hm, h.wf⟩
theorem OpIn.more {w : World} {B B' : Nat} {o : Opn} (h : OpIn w B o) (hb : B ≤ B') : OpIn w B' o := ⟨h.rd.more hb, h.hc, h.hm, h.wf⟩
attribute [local go_sem] Opn.agg Opn.cells
def reqU (o : Opn) (cl num : Int) (A : Option Addr) (c : Nat) : Up := ⟨0, cl, num, o.kd, o.key, o.ver, A, o.n, c, o.bs⟩
noncomputable def reqE (o : Opn) (cl num : Int) : Int := updE (reqU o cl num none 0) true
theorem reqE_at (o : Opn) (cl num : Int) (A : Option Addr) (c : Nat) : updE (reqU o cl num A c) true = reqE o cl num := rfl
def reqV (b : Int) (u : Up) : Up := if b = 0 then u else Up.zero
def ReqP (o : Opn) (cl num : Int) (w : World) (e : Ending) (w' : World) : Prop := ∃ (A : Option Addr) (c : Nat), e = .returned (.tuple #[(reqV (reqE o cl num) (reqU o cl num A c)).agg, .int .i64 (reqE o cl num)]) ∧ UpIn w' w'.heap.size (reqU o cl num A c) ∧ Below w.heap.size w w'
theorem reqU_wf {o : Opn} (h : o.wf) {cl num : Int} (hc : -9223372036854775808 ≤ cl ∧ cl ≤ 9223372036854775807) (hn : 0 ≤ num ∧ num ≤ 18446744073709551615) (A : Option Addr) (c : Nat) : (reqU o cl num A c).wf :=
 ⟨⟨by show (0:Int) ≤ 0; omega, by show (0:Int) ≤ 18446744073709551615; omega⟩, hc, hn, h.kd, h.key, h.ver, h.bs⟩
structure ReqM (w : World) (u : Up) (g : Nat) (W : World) : Prop where
 res : Blk W (w.heap.size + 1) 145 #[.int .u64 0, .int .i64 0, .int .u64 0, .int .i64 0, .int .u32 0, .int .u64 0, .slice none 0 0]
 own : Blk W g 145 u.cells
 far : w.heap.size + 1 < g
 bel : Below w.heap.size w W
 row : UpIn W W.heap.size u
 row2 : ∀ ad : Addr, 0 < u.n → u.A = some ad → ad.block ≠ w.heap.size + 1
theorem own_ad_ne {w : World} {base k : Nat} {e : TypeId} {size n c : Nat} {A : Option Addr} {xs : List Value} (h : w.ownsRow base e size (.slice A n c) n xs) {ad : Addr} (h0 : 0 < n) (hA : A = some ad) (hk : k < base) : ad.block ≠ k := by
 subst hA
 obtain ⟨g, cap, hv, hb, _⟩ := h.form h0
 injection hv with hv
 injection hv with hv
 subst hv
 intro e
 simp at e
 omega
theorem reqm_alloc {w W : World} {u : Up} (h1 : Blk W (w.heap.size + 1) 145 #[.int .u64 0, .int .i64 0, .int .u64 0, .int .i64 0, .int .u32 0, .int .u64 0, .slice none 0 0]) (h2 : Below w.heap.size w W) (h3 : UpIn W W.heap.size u) (h4 : ∀ ad : Addr, 0 < u.n → u.A = some ad → ad.block ≠ w.heap.size + 1) : ReqM w u W.heap.size (W.alloc (.cells u.cells 145)) :=
 ⟨h1.alloc _, Blk.new _ _ _, h1.lt, h2.alloc (by have := h1.lt; omega) _, ⟨(h3.rd.alloc (Nat.le_refl _) _).more (by simp), h3.hc, h3.hm, h3.wf⟩, h4⟩
theorem reqm_set {w W : World} {u : Up} {g b : Nat} (h1 : Blk W (w.heap.size + 1) 145 #[.int .u64 0, .int .i64 0, .int .u64 0, .int .i64 0, .int .u32 0, .int .u64 0, .slice none 0 0]) (h2 : Below w.heap.size w W) (h3 : W.ownsRow b 5 1 (.slice u.A u.n u.c) u.n (u.bs.map (Value.int .u8))) (h4 : Blk W g 145 #[.int .u64 0, .int .i64 0, .int .u64 0, .int .i64 0, .int .u32 0, .int .u64 0, .slice none 0 0]) (hg : w.heap.size + 1 < g) (hgb : g < b) (hw : u.wf) (hc : u.n ≤ u.c) (hm : u.c ≤ maxLen) :
  ReqM w u g (((((((W.setCell ⟨g, 0, none⟩ (.int .u64 u.seq)).setCell ⟨g, 1, none⟩ (.int .i64 u.cl)).setCell ⟨g, 2, none⟩ (.int .u64 u.num)).setCell ⟨g, 3, none⟩ (.int .i64 u.kd)).setCell ⟨g, 4, none⟩ (.int .u32 u.key)).setCell ⟨g, 5, none⟩ (.int .u64 u.ver)).setCell ⟨g, 6, none⟩ (.slice u.A u.n u.c)) := by
 have n1 : w.heap.size + 1 ≠ g := by omega
 have hC := ((((((chg_setB W g (.int .u64 u.seq) 0).trans (chg_setB _ g (.int .i64 u.cl) 1) (fun _ _ x => x)).trans (chg_setB _ g (.int .u64 u.num) 2) (fun _ _ x => x)).trans (chg_setB _ g (.int .i64 u.kd) 3) (fun _ _ x => x)).trans (chg_setB _ g (.int .u32 u.key) 4) (fun _ _ x => x)).trans (chg_setB _ g (.int .u64 u.ver) 5) (fun _ _ x => x)).trans (chg_setB _ g (.slice u.A u.n u.c) 6) (fun _ _ x => x)
 refine ⟨?_, ?_, hg, ?_, ⟨?_, hc, hm, hw⟩, fun ad h0 hA => own_ad_ne h3 h0 hA (by omega)⟩
 ·exact ((((((h1.far n1 _).far n1 _).far n1 _).far n1 _).far n1 _).far n1 _).far n1 _
 ·exact ((((((h4.set_ 0 _).set_ 1 _).set_ 2 _).set_ 3 _).set_ 4 _).set_ 5 _).set_ 6 _
 ·exact h2.trans (hC.below h2.size (fun k hk e => by simp only [isB] at e; omega))
 ·exact Reads.of_own (hC.own h3 (fun k hk e => by have := (h3.lt k hk).1; simp only [isB] at e; omega))
theorem cells7 {w : World} {g : Nat} {t : TypeId} {a0 a1 a2 a3 a4 a5 a6 : Value} (h : Blk w g t #[a0, a1, a2, a3, a4, a5, a6]) : w.cell? ⟨g, 0, none⟩ = some a0 ∧ w.cell? ⟨g, 1, none⟩ = some a1 ∧ w.cell? ⟨g, 2, none⟩ = some a2 ∧ w.cell? ⟨g, 3, none⟩ = some a3 ∧ w.cell? ⟨g, 4, none⟩ = some a4 ∧ w.cell? ⟨g, 5, none⟩ = some a5 ∧ w.cell? ⟨g, 6, none⟩ = some a6 :=
 ⟨h.cell 0, h.cell 1, h.cell 2, h.cell 3, h.cell 4, h.cell 5, h.cell 6⟩
theorem frozen7 {w : World} {g : Nat} {t : TypeId} {cs : Array Value} (h : Blk w g t cs) : w.frozen? ⟨g, 0, none⟩ = false ∧ w.frozen? ⟨g, 1, none⟩ = false ∧ w.frozen? ⟨g, 2, none⟩ = false ∧ w.frozen? ⟨g, 3, none⟩ = false ∧ w.frozen? ⟨g, 4, none⟩ = false ∧ w.frozen? ⟨g, 5, none⟩ = false ∧ w.frozen? ⟨g, 6, none⟩ = false :=
 ⟨h.frozen 0, h.frozen 1, h.frozen 2, h.frozen 3, h.frozen 4, h.frozen 5, h.frozen 6⟩
theorem request_any (o : Opn) (cl num : Int) (B : Nat) (w : World) (hK : KindsAt w) (h : OpIn w B o) (hB : B ≤ w.heap.size) (hn : o.n ≤ 1000000) (hc : -9223372036854775808 ≤ cl ∧ cl ≤ 9223372036854775807) (hnm : 0 ≤ num ∧ num ≤ 18446744073709551615) :
  Calls Tryz.prog 153 #[o.agg, .int .i64 cl, .int .u64 num] w (ReqP o cl num w) := by
 have H := Lib.hid h
 have HK := Lib.hid hK
 have HWF := Lib.hid (fun A c => reqU_wf h.wf hc hnm A c)
 clear h hK hc hnm
 go_enter Tryz.func153, Tryz.ntmps153
 go_wp2_with (fail)
 obtain ⟨W5, hW5⟩ : ∃ W5, W5 = (w.alloc (.cells o.cells 58)).alloc (.cells #[.int .u64 0, .int .i64 0, .int .u64 0, .int .i64 0, .int .u32 0, .int .u64 0, .slice none 0 0] 145) := ⟨_, rfl⟩
 rw [show (w.alloc (.cells #[.int .i64 o.kd, .int .u32 o.key, .int .u64 o.ver, .slice o.A o.n o.c, .int .i64 o.pick] 58)).alloc (.cells #[.int .u64 0, .int .i64 0, .int .u64 0, .int .i64 0, .int .u32 0, .int .u64 0, .slice none 0 0] 145) = W5 from hW5.symm]
 have hb1 : Blk W5 w.heap.size 58 o.cells := by rw [hW5]; exact (Blk.new w _ _).alloc _
 have hb2 : Blk W5 (w.heap.size + 1) 145 #[.int .u64 0, .int .i64 0, .int .u64 0, .int .i64 0, .int .u32 0, .int .u64 0, .slice none 0 0] := by rw [hW5]; exact blk_at7 _ _ _ _ (by simp)
 have HBW : Hid (Below w.heap.size w W5) := Lib.hid (by rw [hW5]; repeat (first | with_reducible exact Below.refl _ _ | with_reducible refine Below.setCell ?_ (by first | omega | (simp <;> omega)) _ | with_reducible refine Below.alloc ?_ (by first | omega | (simp <;> omega)) _ | with_reducible refine below_drewN ?_ _ | with_reducible refine Below.drew ?_))
 have HR : Hid (Reads W5 B 1 o.A o.n (o.bs.map (Value.int .u8))) := Lib.hid (H.out.rd.below (HBW.out.mono hB))
 have x0 := (hb1.cell 0).trans (show _ = some (.int .i64 o.kd) from rfl)
 have x1 := (hb1.cell 1).trans (show _ = some (.int .u32 o.key) from rfl)
 have x2 := (hb1.cell 2).trans (show _ = some (.int .u64 o.ver) from rfl)
 have x3 := (hb1.cell 3).trans (show _ = some (.slice o.A o.n o.c) from rfl)
 have l1 := hb1.lt
 have l2 := hb2.lt
 have HB2 := Lib.hid hb2
 have hBW5 := Nat.le_trans hB HBW.out.size
 have G1 := Lib.hid (fun W (h9 : Below W5.heap.size W5 W) => bclone_any o.A o.n o.c B o.bs W (Nat.le_trans hBW5 h9.size) (HR.out.below (h9.mono hBW5)) (by omega))
 clear hW5 hb1 hb2
 have nw : W5.heap.size ≠ w.heap.size := World.new_ne W5 _ x0
 go_cut [8] (fun v8 wx => ∃ (g c7 : Nat) (A7 : Option Addr), v8 = .pointer (some ⟨g, 0, none⟩) ∧ Hid (ReqM w (reqU o cl num A7 c7) g wx))
 case first =>
  go_region_held3 (fun w' => w'.cell? ⟨w.heap.size, 0, none⟩ = some (.int .i64 o.kd) ∧ w'.cell? ⟨w.heap.size, 1, none⟩ = some (.int .u32 o.key) ∧ w'.cell? ⟨w.heap.size, 2, none⟩ = some (.int .u64 o.ver) ∧ w'.cell? ⟨w.heap.size, 3, none⟩ = some (.slice o.A o.n o.c)) (go_keep) (first
   | (go_at_call 75; refine (G1.out _ (by repeat (first | with_reducible exact Below.refl _ _ | with_reducible refine Below.alloc ?_ (by simp <;> omega) _ | with_reducible refine below_drewN ?_ _ | with_reducible refine Below.drew ?_))).mono ?_; rintro e w6 ⟨v, rfl, hown, h6⟩; obtain ⟨A7, c7, rfl, hrd, hnc, hcm⟩ := own_slice hown; have hb7 := (show Blk (W5.drew.alloc (.cells #[.int .u64 0, .int .i64 0, .int .u64 0, .int .i64 0, .int .u32 0, .int .u64 0, .slice none 0 0] 145)) W5.heap.size 145 #[.int .u64 0, .int .i64 0, .int .u64 0, .int .i64 0, .int .u32 0, .int .u64 0, .slice none 0 0] from Blk.new _ _ _).below h6 (by simp); have HB7 := Lib.hid hb7; have q0 := (hb7.cell 0).trans (show _ = some (.int .u64 0) from rfl); have q1 := (hb7.cell 1).trans (show _ = some (.int .i64 0) from rfl); have q2 := (hb7.cell 2).trans (show _ = some (.int .u64 0) from rfl); have q3 := (hb7.cell 3).trans (show _ = some (.int .i64 0) from rfl); have q4 := (hb7.cell 4).trans (show _ = some (.int .u32 0) from rfl); have q5 := (hb7.cell 5).trans (show _ = some (.int .u64 0) from rfl); have q6 := (hb7.cell 6).trans (show _ = some (.slice none 0 0) from rfl); have g0 := hb7.frozen 0; have g1 := hb7.frozen 1; have g2 := hb7.frozen 2; have g3 := hb7.frozen 3; have g4 := hb7.frozen 4; have g5 := hb7.frozen 5; have g6 := hb7.frozen 6; have HOWN := Lib.hid hown; have HRD := Lib.hid hrd; have H6 := Lib.hid h6; replace x0 := cell_relay x0 l1 h6 (by repeat (first | with_reducible exact Below.refl _ _ | with_reducible refine Below.alloc ?_ (by simp <;> omega) _ | with_reducible refine below_drewN ?_ _ | with_reducible refine Below.drew ?_)); replace x1 := cell_relay x1 l1 h6 (by repeat (first | with_reducible exact Below.refl _ _ | with_reducible refine Below.alloc ?_ (by simp <;> omega) _ | with_reducible refine below_drewN ?_ _ | with_reducible refine Below.drew ?_)); replace x2 := cell_relay x2 l1 h6 (by repeat (first | with_reducible exact Below.refl _ _ | with_reducible refine Below.alloc ?_ (by simp <;> omega) _ | with_reducible refine below_drewN ?_ _ | with_reducible refine Below.drew ?_)); replace x3 := cell_relay x3 l1 h6 (by repeat (first | with_reducible exact Below.refl _ _ | with_reducible refine Below.alloc ?_ (by simp <;> omega) _ | with_reducible refine below_drewN ?_ _ | with_reducible refine Below.drew ?_)); clear hown hrd hb7 h6)
   | (go_at_call 75; refine (G1.out _ (by repeat (first | with_reducible exact Below.refl _ _ | with_reducible refine Below.alloc ?_ (by simp <;> omega) _ | with_reducible refine below_drewN ?_ _ | with_reducible refine Below.drew ?_))).mono ?_; rintro e w6 ⟨v, rfl, hown, h6⟩; obtain ⟨A7, c7, rfl, hrd, hnc, hcm⟩ := own_slice hown; have HOWN := Lib.hid hown; have HRD := Lib.hid hrd; have H6 := Lib.hid h6; replace x0 := cell_relay x0 l1 h6 (by repeat (first | with_reducible exact Below.refl _ _ | with_reducible refine Below.alloc ?_ (by simp <;> omega) _ | with_reducible refine below_drewN ?_ _ | with_reducible refine Below.drew ?_)); replace x1 := cell_relay x1 l1 h6 (by repeat (first | with_reducible exact Below.refl _ _ | with_reducible refine Below.alloc ?_ (by simp <;> omega) _ | with_reducible refine below_drewN ?_ _ | with_reducible refine Below.drew ?_)); replace x2 := cell_relay x2 l1 h6 (by repeat (first | with_reducible exact Below.refl _ _ | with_reducible refine Below.alloc ?_ (by simp <;> omega) _ | with_reducible refine below_drewN ?_ _ | with_reducible refine Below.drew ?_)); replace x3 := cell_relay x3 l1 h6 (by repeat (first | with_reducible exact Below.refl _ _ | with_reducible refine Below.alloc ?_ (by simp <;> omega) _ | with_reducible refine below_drewN ?_ _ | with_reducible refine Below.drew ?_)); clear hown hrd h6)
   | fail)
  ·have hM : Hid (ReqM w (reqU o cl num A7 c7) w6.heap.size (w6.alloc (.cells (reqU o cl num A7 c7).cells 145))) :=
    Lib.hid (reqm_alloc (HB2.out.drew.below H6.out l2) (HBW.out.drew.trans (H6.out.mono HBW.out.size)) ⟨HRD.out, hnc, hcm, HWF.out A7 c7⟩ (fun ad h0 hA => own_ad_ne HOWN.out h0 hA l2))
   go_wp2_with (fail)
   go_meet
   case rel => exact ⟨w6.heap.size, c7, A7, rfl, hM⟩
  ·have hO : w6.ownsRow (W5.heap.size + 1) 5 1 (.slice A7 o.n c7) o.n (o.bs.map (Value.int .u8)) := by have := HOWN.out; simpa using this
   have hM := Lib.hid (reqm_set (w := w) (W := w6) (u := reqU o cl num A7 c7) (g := W5.heap.size) (b := W5.heap.size + 1) ((HB2.out.alloc _).drew.below H6.out (by simp; omega))
    ((HBW.out.alloc HBW.out.size _).drew.trans (H6.out.mono (by simp; have := HBW.out.size; omega))) hO HB7.out l2 (by omega) (HWF.out A7 c7) hnc hcm)
   clear hO
   go_wp2_with (fail)
   go_meet
   case rel => exact ⟨W5.heap.size, c7, A7, rfl, hM⟩
 case rest =>
  obtain ⟨g, c7, A7, rfl, HM⟩ := hcut
  clear G1 HR HB2 HBW x0 x1 x2 x3 l1 l2 nw hBW5
  obtain ⟨x0, x1, x2, x3, x4, x5, x6⟩ := up_cells HM.out.own
  have lg := HM.out.own.lt
  have CA := Lib.hid (updAsked_any (reqU o cl num A7 c7) _ _ (HK.out.below HM.out.bel) HM.out.row (Nat.le_refl _) hn)
  rw [reqE_at] at CA
  simp only [reqU] at x0 x1 x2 x3 x4 x5 x6
  obtain ⟨z, hz⟩ : ∃ z, reqE o cl num = z := ⟨_, rfl⟩
  have HZ := Lib.hid hz
  rw [hz] at CA
  clear hz
  go_wp2_with (fail)
  refine CA.out.mono ?_
  rintro e w9 ⟨rfl, h9⟩
  have H9R := Lib.hid (HM.out.res.below h9 HM.out.res.lt)
  have H9O := Lib.hid (HM.out.own.below h9 lg)
  have H9U := Lib.hid (HM.out.row.below h9)
  have H9B := Lib.hid (HM.out.bel.trans (h9.mono HM.out.bel.size))
  have H9N : Hid (∀ ad : Addr, 0 < o.n → A7 = some ad → ad.block ≠ w.heap.size + 1) := Lib.hid (fun ad h0 hA => HM.out.row2 ad h0 hA)
  have H9S := Lib.hid h9.size
  clear h9 lg x0 x1 x2 x3 x4 x5 x6
  obtain ⟨x0, x1, x2, x3, x4, x5, x6⟩ := up_cells H9O.out
  simp only [reqU] at x0 x1 x2 x3 x4 x5 x6
  obtain ⟨r0, r1, r2, r3, r4, r5, r6⟩ := cells7 H9R.out
  obtain ⟨f0, f1, f2, f3, f4, f5, f6⟩ := frozen7 H9R.out
  by_cases h0 : z = 0
  ·subst h0
   go_wp2_with (fail)
   have HC : Hid (Chg w9 (((((((w9.setCell ⟨w.heap.size + 1, 0, none⟩ (.int .u64 0)).setCell ⟨w.heap.size + 1, 1, none⟩ (.int .i64 cl)).setCell ⟨w.heap.size + 1, 2, none⟩ (.int .u64 num)).setCell ⟨w.heap.size + 1, 3, none⟩ (.int .i64 o.kd)).setCell ⟨w.heap.size + 1, 4, none⟩ (.int .u32 o.key)).setCell ⟨w.heap.size + 1, 5, none⟩ (.int .u64 o.ver)).setCell ⟨w.heap.size + 1, 6, none⟩ (.slice A7 o.n c7)) (isB (w.heap.size + 1))) := Lib.hid (((((((chg_setB w9 (w.heap.size + 1) (.int .u64 0) 0).trans (chg_setB _ (w.heap.size + 1) (.int .i64 cl) 1) (fun _ _ x => x)).trans (chg_setB _ (w.heap.size + 1) (.int .u64 num) 2) (fun _ _ x => x)).trans (chg_setB _ (w.heap.size + 1) (.int .i64 o.kd) 3) (fun _ _ x => x)).trans (chg_setB _ (w.heap.size + 1) (.int .u32 o.key) 4) (fun _ _ x => x)).trans (chg_setB _ (w.heap.size + 1) (.int .u64 o.ver) 5) (fun _ _ x => x)).trans (chg_setB _ (w.heap.size + 1) (.slice A7 o.n c7) 6) (fun _ _ x => x))
   have HKB : Hid (Blk (((((((w9.setCell ⟨w.heap.size + 1, 0, none⟩ (.int .u64 0)).setCell ⟨w.heap.size + 1, 1, none⟩ (.int .i64 cl)).setCell ⟨w.heap.size + 1, 2, none⟩ (.int .u64 num)).setCell ⟨w.heap.size + 1, 3, none⟩ (.int .i64 o.kd)).setCell ⟨w.heap.size + 1, 4, none⟩ (.int .u32 o.key)).setCell ⟨w.heap.size + 1, 5, none⟩ (.int .u64 o.ver)).setCell ⟨w.heap.size + 1, 6, none⟩ (.slice A7 o.n c7)) (w.heap.size + 1) 145 #[.int .u64 0, .int .i64 cl, .int .u64 num, .int .i64 o.kd, .int .u32 o.key, .int .u64 o.ver, .slice A7 o.n c7]) := Lib.hid (((((((H9R.out.set_ 0 (.int .u64 0)).set_ 1 (.int .i64 cl)).set_ 2 (.int .u64 num)).set_ 3 (.int .i64 o.kd)).set_ 4 (.int .u32 o.key)).set_ 5 (.int .u64 o.ver)).set_ 6 (.slice A7 o.n c7))
   obtain ⟨wz, hwz⟩ : ∃ wz, wz = (((((((w9.setCell ⟨w.heap.size + 1, 0, none⟩ (.int .u64 0)).setCell ⟨w.heap.size + 1, 1, none⟩ (.int .i64 cl)).setCell ⟨w.heap.size + 1, 2, none⟩ (.int .u64 num)).setCell ⟨w.heap.size + 1, 3, none⟩ (.int .i64 o.kd)).setCell ⟨w.heap.size + 1, 4, none⟩ (.int .u32 o.key)).setCell ⟨w.heap.size + 1, 5, none⟩ (.int .u64 o.ver)).setCell ⟨w.heap.size + 1, 6, none⟩ (.slice A7 o.n c7)) := ⟨_, rfl⟩
   rw [← hwz] at HC HKB ⊢
   clear hwz r0 r1 r2 r3 r4 r5 r6 f0 f1 f2 f3 f4 f5 f6 x0 x1 x2 x3 x4 x5 x6
   obtain ⟨k0, k1, k2, k3, k4, k5, k6⟩ := cells7 HKB.out
   go_wp2_with (fail)
   refine bodyPost_ret (v := .tuple #[.agg #[.int .u64 0, .int .i64 cl, .int .u64 num, .int .i64 o.kd, .int .u32 o.key, .int .u64 o.ver, .slice A7 o.n c7], .int .i64 0]) (by simp [results, Tryz.results153, go_sem, k0, k1, k2, k3, k4, k5, k6]) rfl ?_
   refine ⟨A7, c7, by rw [HZ.out]; rfl, ⟨(HC.out.reads H9U.out.rd H9S.out (fun ad h0 hA e => ?_)).more (Nat.le_trans H9S.out HC.out.size), H9U.out.hc, H9U.out.hm, H9U.out.wf⟩, H9B.out.trans (HC.out.below H9B.out.size (fun k hk e => by simp only [isB] at e; omega))⟩
   simp only [isB] at e
   exact H9N.out ad h0 hA e
  ·have h0' : (z != 0) = true := by simpa using h0
   have HNZ := Lib.hid h0
   clear h0
   go_wp2_with (fail)
   have HC : Hid (Chg w9 (((((((w9.setCell ⟨w.heap.size + 1, 0, none⟩ (.int .u64 0)).setCell ⟨w.heap.size + 1, 1, none⟩ (.int .i64 0)).setCell ⟨w.heap.size + 1, 2, none⟩ (.int .u64 0)).setCell ⟨w.heap.size + 1, 3, none⟩ (.int .i64 0)).setCell ⟨w.heap.size + 1, 4, none⟩ (.int .u32 0)).setCell ⟨w.heap.size + 1, 5, none⟩ (.int .u64 0)).setCell ⟨w.heap.size + 1, 6, none⟩ (.slice none 0 0)) (isB (w.heap.size + 1))) := Lib.hid (((((((chg_setB w9 (w.heap.size + 1) (.int .u64 0) 0).trans (chg_setB _ (w.heap.size + 1) (.int .i64 0) 1) (fun _ _ x => x)).trans (chg_setB _ (w.heap.size + 1) (.int .u64 0) 2) (fun _ _ x => x)).trans (chg_setB _ (w.heap.size + 1) (.int .i64 0) 3) (fun _ _ x => x)).trans (chg_setB _ (w.heap.size + 1) (.int .u32 0) 4) (fun _ _ x => x)).trans (chg_setB _ (w.heap.size + 1) (.int .u64 0) 5) (fun _ _ x => x)).trans (chg_setB _ (w.heap.size + 1) (.slice none 0 0) 6) (fun _ _ x => x))
   have HKB : Hid (Blk (((((((w9.setCell ⟨w.heap.size + 1, 0, none⟩ (.int .u64 0)).setCell ⟨w.heap.size + 1, 1, none⟩ (.int .i64 0)).setCell ⟨w.heap.size + 1, 2, none⟩ (.int .u64 0)).setCell ⟨w.heap.size + 1, 3, none⟩ (.int .i64 0)).setCell ⟨w.heap.size + 1, 4, none⟩ (.int .u32 0)).setCell ⟨w.heap.size + 1, 5, none⟩ (.int .u64 0)).setCell ⟨w.heap.size + 1, 6, none⟩ (.slice none 0 0)) (w.heap.size + 1) 145 #[.int .u64 0, .int .i64 0, .int .u64 0, .int .i64 0, .int .u32 0, .int .u64 0, .slice none 0 0]) := Lib.hid (((((((H9R.out.set_ 0 (.int .u64 0)).set_ 1 (.int .i64 0)).set_ 2 (.int .u64 0)).set_ 3 (.int .i64 0)).set_ 4 (.int .u32 0)).set_ 5 (.int .u64 0)).set_ 6 (.slice none 0 0))
   obtain ⟨wz, hwz⟩ : ∃ wz, wz = (((((((w9.setCell ⟨w.heap.size + 1, 0, none⟩ (.int .u64 0)).setCell ⟨w.heap.size + 1, 1, none⟩ (.int .i64 0)).setCell ⟨w.heap.size + 1, 2, none⟩ (.int .u64 0)).setCell ⟨w.heap.size + 1, 3, none⟩ (.int .i64 0)).setCell ⟨w.heap.size + 1, 4, none⟩ (.int .u32 0)).setCell ⟨w.heap.size + 1, 5, none⟩ (.int .u64 0)).setCell ⟨w.heap.size + 1, 6, none⟩ (.slice none 0 0)) := ⟨_, rfl⟩
   rw [← hwz] at HC HKB ⊢
   clear hwz r0 r1 r2 r3 r4 r5 r6 f0 f1 f2 f3 f4 f5 f6 x0 x1 x2 x3 x4 x5 x6
   obtain ⟨k0, k1, k2, k3, k4, k5, k6⟩ := cells7 HKB.out
   go_wp2_with (fail)
   refine bodyPost_ret (v := .tuple #[.agg #[.int .u64 0, .int .i64 0, .int .u64 0, .int .i64 0, .int .u32 0, .int .u64 0, .slice none 0 0], .int .i64 z]) (by simp [results, Tryz.results153, go_sem, k0, k1, k2, k3, k4, k5, k6]) rfl ?_
   refine ⟨A7, c7, by rw [HZ.out]; unfold reqV; rw [if_neg HNZ.out]; rfl, ⟨(HC.out.reads H9U.out.rd H9S.out (fun ad h0 hA e => ?_)).more (Nat.le_trans H9S.out HC.out.size), H9U.out.hc, H9U.out.hm, H9U.out.wf⟩, H9B.out.trans (HC.out.below H9B.out.size (fun k hk e => by simp only [isB] at e; omega))⟩
   simp only [isB] at e
   exact H9N.out ad h0 hA e
end Go.Proofs.YtmpedblelnpjdaaGreatDoor
