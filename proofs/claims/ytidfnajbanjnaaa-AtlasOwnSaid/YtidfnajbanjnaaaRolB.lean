/- Contracts: Clone, everybody, Stands, Unlike, both Right. -/
import Derived.Test.YtidfnajbanjnaaaRolA

namespace Go.Proofs.Ytidfnajbanjnaaa
open Go.RowKit
set_option linter.unusedSimpArgs false
set_option linter.unusedVariables false
set_option maxHeartbeats 1000000

theorem clone_int (A : Option Addr) (n c B : Nat) (b : List Int) (w : World) (hB : B ≤ w.heap.size) (hr : Reads w B 1 A n (b.map (Value.int .i64))) (hn : n ≤ 1000000000) :
    Calls Try.prog 39 #[.slice A n c] w fun e w' => ∃ v, e = .returned v ∧ w'.ownsRow w.heap.size 3 1 v n (b.map (Value.int .i64)) ∧ Below w.heap.size w w' := by
  obtain ⟨i0, hi, hz0, hz1, hz2⟩ := info_parts i64Info
  have HR := Lib.hid hr
  have hnil := fun w => Lib.run_eql_slice_nil (P := Try.prog) w 33 3 A n c 0 0 Try.underlying33
  rcases A with _ | ad
  · have h0 : n = 0 := by
      rcases Nat.eq_zero_or_pos n with h | h
      · exact h
      · obtain ⟨ad, h, _⟩ := hr.2 h; cases h
    subst h0
    have hb0 : b = [] := by have := hr.1; simpa using this
    subst hb0
    clear hr
    go_enter Try.func39, Try.ntmps39
    go_wp2
    go_ret
    exact ⟨_, rfl, World.ownsRow_nil _ _ _ _, Below.refl _ _⟩
  · clear hr
    go_enter Try.func39, Try.ntmps39
    go_wp2_with (at_builtin; go_must (refine wpList_append_any _ rfl (.tmp 5) (.tmp 6) _ rfl w.heap.size 3 i0 _ 1 8 Try.underlying33 hi hz0 hz1 hz2 rfl (by omega) _ _ _ rfl (World.ownsRow_made w #[] 0 (Nat.le_refl _) (by decide) rfl) B (some ad) n c (b.map (Value.int .i64)) rfl (Reads.alloc HR.out hB _) ?c1 ?c2 ?c3 ?c4 ?_))
    case c1 => exact i64_one b
    case c2 => unfold maxLen; omega
    case c3 => omega
    case c4 => simp
    intro v1 w1 hown hg hat
    have HO := Lib.hid hown
    have HG := Lib.hid hg
    clear hown hg hat hnil
    go_wp2
    go_ret
    refine ⟨_, rfl, by simpa using HO.out, ((Below.refl _ _).alloc (Nat.le_refl _) _).grown HG.out (by simp) (fun k hk => ?_)⟩
    simp [Value.ownBlock] at hk
    omega

theorem own_mono {w : World} {base base' : Nat} {e : TypeId} {size : Nat} {v : Value} {n : Nat} {xs : List Value} (h : w.ownsRow base e size v n xs) (hb : base' ≤ base) : w.ownsRow base' e size v n xs := by
  refine ⟨h.1, ?_⟩
  rcases h.2 with h2 | ⟨g, cap, cur, h1, h2, h3⟩
  · exact .inl h2
  · exact .inr ⟨g, cap, cur, h1, by omega, h3⟩
/-- a configuration -/
structure Cf where
  ch : Int
  ep : Nat
  A : Option Addr
  len : Nat
  cap : Nat
  fr : Bool
  jn : Int
  zs : List Int
def Cf.agg (x : Cf) : Value := .agg #[.int .i64 x.ch, .int .u64 x.ep, .slice x.A x.len x.cap, .bool x.fr, .int .i64 x.jn]
def Cf.cells (x : Cf) : Array Value := #[.int .i64 x.ch, .int .u64 x.ep, .slice x.A x.len x.cap, .bool x.fr, .int .i64 x.jn]
structure CfIn (w : World) (B : Nat) (x : Cf) : Prop where
  rd : Reads w B 1 x.A x.len (x.zs.map (Value.int .i64))
  hc : x.len ≤ x.cap
  hm : x.cap ≤ maxLen
theorem CfIn.below {w w' : World} {B : Nat} {x : Cf} (h : CfIn w B x) (hb : Below B w w') : CfIn w' B x := ⟨h.rd.below hb, h.hc, h.hm⟩
theorem CfIn.alloc {w : World} {B : Nat} {x : Cf} (h : CfIn w B x) (hB : B ≤ w.heap.size) (o : Obj) : CfIn (w.alloc o) B x := ⟨h.rd.alloc hB o, h.hc, h.hm⟩
theorem CfIn.drewN {w : World} {B : Nat} {x : Cf} (h : CfIn w B x) (k : Nat) : CfIn (w.drewN k) B x := ⟨h.rd, h.hc, h.hm⟩
theorem CfIn.len_eq {w : World} {B : Nat} {x : Cf} (h : CfIn w B x) : x.zs.length = x.len := by have := h.rd.1; simpa using this
def Cf.stands (x : Cf) : List Int := x.zs ++ if x.jn = 0 then [] else [x.jn]
def Cf.fine (x : Cf) : Prop := (0 ≤ x.ch ∧ x.ch < 4) ∧ 1 ≤ x.ep ∧ (1 ≤ x.len ∧ x.len ≤ 5) ∧ (x.fr = true → 2 ≤ x.len ∧ x.jn = 0)
instance (x : Cf) : Decidable x.fine := by unfold Cf.fine; exact inferInstance
noncomputable def Cf.right (x : Cf) : Bool := decide x.fine && unlikeB x.stands
theorem Cf.right_no {x : Cf} (h : ¬ x.fine) : false = x.right := by unfold Cf.right; simp [h]
theorem Cf.right_yes {x : Cf} (h : x.fine) : unlikeB x.stands = x.right := by unfold Cf.right; simp [h]
theorem cf_cells {w : World} {g : Nat} {t : TypeId} {x : Cf} (h : Blk w g t x.cells) : w.cell? ⟨g, 0, none⟩ = some (.int .i64 x.ch) ∧ w.cell? ⟨g, 1, none⟩ = some (.int .u64 x.ep) ∧ w.cell? ⟨g, 2, none⟩ = some (.slice x.A x.len x.cap) ∧ w.cell? ⟨g, 3, none⟩ = some (.bool x.fr) ∧ w.cell? ⟨g, 4, none⟩ = some (.int .i64 x.jn) := by
  refine ⟨?_, ?_, ?_, ?_, ?_⟩ <;> (rw [h.cell]; rfl)
attribute [local go_sem] Cf.agg Cf.cells

theorem stands_any (x : Cf) (B : Nat) (w : World) (hx : CfIn w B x) (hB : B ≤ w.heap.size) (hn : x.len ≤ 1000000) :
    Calls Try.prog 33 #[x.agg] w fun e w' => ∃ v, e = .returned v ∧ w'.ownsRow w.heap.size 3 1 v x.stands.length (x.stands.map (Value.int .i64)) ∧ Below w.heap.size w w' := by
  obtain ⟨i0, hi, hz0, hz1, hz2⟩ := info_parts i64Info
  have HX := Lib.hid hx
  have HL := Lib.hid hx.len_eq
  clear hx
  by_cases hj : x.jn = 0
  · have hj' : (x.jn != 0) = false := by simp [hj]
    have HS : Hid (x.zs = x.stands) := Lib.hid (by simp [Cf.stands, hj])
    clear hj
    go_enter Try.func33, Try.ntmps33
    go_wp2_with (at_builtin; go_must (refine wpList_append_any _ rfl _ (.tmp 5) _ rfl w.heap.size 3 i0 _ 1 8 Try.underlying33 hi hz0 hz1 hz2 rfl (by omega) _ _ _ rfl (World.ownsRow_nil _ _ _ _) B x.A x.len x.cap (x.zs.map (Value.int .i64)) rfl (HX.out.rd.alloc hB _) ?c1 ?c2 ?c3 ?c4 ?_))
    case c1 => exact i64_one _
    case c2 => unfold maxLen; omega
    case c3 => omega
    case c4 => simp
    intro v1 w1 hown hg hat
    have hbl : Below w.heap.size w w1 := ((Below.refl _ _).alloc (Nat.le_refl _) _).grown hg (by simp) (fun k hk => by simp [Value.ownBlock] at hk)
    obtain ⟨c0, c1, c2, c3, c4⟩ := cf_cells (x := x) ((Blk.new w 35 x.cells).grown hg (by simp [Value.ownBlock]))
    obtain ⟨A1, cc1, rfl, _, _, _⟩ := own_slice hown
    have HO := Lib.hid hown
    have HB := Lib.hid hbl
    clear hown hg hat hbl
    go_wp2
    go_ret
    exact ⟨_, rfl, by rw [← HS.out, HL.out]; simpa using HO.out, HB.out⟩
  · have hj' : (x.jn != 0) = true := by simp [hj]
    have HS : Hid (x.zs ++ [x.jn] = x.stands) := Lib.hid (by simp [Cf.stands, hj])
    clear hj
    go_enter Try.func33, Try.ntmps33
    go_wp2_with (at_builtin; go_must (refine wpList_append_any _ rfl _ (.tmp 5) _ rfl w.heap.size 3 i0 _ 1 8 Try.underlying33 hi hz0 hz1 hz2 rfl (by omega) _ _ _ rfl (World.ownsRow_nil _ _ _ _) B x.A x.len x.cap (x.zs.map (Value.int .i64)) rfl (HX.out.rd.alloc hB _) ?c1 ?c2 ?c3 ?c4 ?_))
    case c1 => exact i64_one _
    case c2 => unfold maxLen; omega
    case c3 => omega
    case c4 => simp
    intro v1 w1 hown hg hat
    have hbl : Below w.heap.size w w1 := ((Below.refl _ _).alloc (Nat.le_refl _) _).grown hg (by simp) (fun k hk => by simp [Value.ownBlock] at hk)
    have hbk := (Blk.new w 35 x.cells).grown hg (by simp [Value.ownBlock])
    obtain ⟨c0, c1, c2, c3, c4⟩ := cf_cells (x := x) hbk
    have hlt := hbk.lt
    obtain ⟨A1, cc1, rfl, _, _, _⟩ := own_slice hown
    have HO := Lib.hid hown
    have HB := Lib.hid hbl
    clear hown hg hat hbl hbk
    go_wp2_with (at_builtin; go_must (refine wpList_append_own _ rfl (.tmp 10) (.tmp 13) _ rfl w.heap.size 3 i0 _ 1 8 Try.underlying33 hi hz0 hz1 hz2 rfl (by omega) _ _ _ rfl (HO.out.alloc _) ⟨w1.heap.size, 0, none⟩ 1 1 [.int .i64 x.jn] rfl rfl ?d1 ?d2 ?d3 ?d4 ?d5 ?_))
    case d1 => exact fun j u hu => cells_new_at _ _ _ _ (by simp) j u hu
    case d2 => intro u hu; simp at hu; subst hu; rfl
    case d3 => unfold maxLen; omega
    case d4 => omega
    case d5 => simp; have := HB.out.size; omega
    intro v2 w2 hown hg hat
    have hbl : Below w.heap.size w w2 := (HB.out.alloc (by exact HB.out.size) _).grown hg (by simp; have := HB.out.size; omega) (fun k hk => (HO.out.lt k hk).1)
    have H2 := Lib.hid hown
    have HB2 := Lib.hid hbl
    clear hown hg hat hbl
    go_wp2
    go_ret
    exact ⟨_, rfl, by rw [← HS.out, List.length_append, HL.out]; simpa using H2.out, HB2.out⟩

theorem cell_app {w6 W w8 : World} {p : Addr} {u v : Value} (h : w6.cell? p = some u) (hp : p.block < w6.heap.size) (hb : Below w6.heap.size w6 W) (hg : W.grownBy w8 v.ownBlock) (ho : ∀ k, v.ownBlock = some k → p.block < k) : w8.cell? p = some u :=
  (World.cell?_of_block (hg.block p.block (Nat.lt_of_lt_of_le hp hb.size) (fun e => by have := ho _ e.symm; omega))).trans ((hb.cell hp).trans h)
theorem app_below {B : Nat} {w w0 W0 w6 W w8 : World} {v : Value} (h0 : Below B w w0) (hB : B ≤ w0.heap.size) (b1 : Below w0.heap.size w0 W0) (b2 : Below W0.heap.size W0 w6) (b3 : Below w6.heap.size w6 W) (hg : W.grownBy w8 v.ownBlock) (ho : ∀ k, v.ownBlock = some k → B ≤ k) : Below B w w8 := by
  have s1 := b1.size
  have s2 := b2.size
  have s3 := b3.size
  exact (((h0.trans (b1.mono hB)).trans (b2.mono (by omega))).trans (b3.mono (by omega))).grown hg (by omega) ho
theorem everybody_any (x : Cf) (B : Nat) (w : World) (hx : CfIn w B x) (hB : B ≤ w.heap.size) (hn : x.len ≤ 1000000) :
    Calls Try.prog 43 #[x.agg] w fun e w' => ∃ v, e = .returned v ∧ w'.ownsRow w.heap.size 3 1 v x.stands.length (x.stands.map (Value.int .i64)) ∧ Below w.heap.size w w' := by
  obtain ⟨i0, hi, hz0, hz1, hz2⟩ := info_parts i64Info
  have HX := Lib.hid hx
  have HL := Lib.hid hx.len_eq
  clear hx
  by_cases hj : x.jn = 0
  · have hj' : (x.jn == 0) = true := by simp [hj]
    have HS : Hid (x.zs = x.stands) := Lib.hid (by simp [Cf.stands, hj])
    clear hj
    go_enter Try.func43, Try.ntmps43
    go_wp2_with (fail)
    refine (clone_int x.A x.len x.cap B x.zs _ (by simp; omega) (HX.out.rd.alloc hB _) (by omega)).mono ?_
    rintro e w1 ⟨v, rfl, h1, h2⟩
    have H1 := Lib.hid h1
    have H2 := Lib.hid h2
    clear h1 h2
    go_wp2
    go_ret
    exact ⟨_, rfl, by rw [← HS.out, HL.out]; exact own_mono H1.out (by simp), ((Below.refl _ _).alloc (Nat.le_refl _) _).trans (H2.out.mono (by simp))⟩
  · have hj' : (x.jn == 0) = false := by simp [hj]
    have HS : Hid (x.zs ++ [x.jn] = x.stands) := Lib.hid (by simp [Cf.stands, hj])
    clear hj
    go_enter Try.func43, Try.ntmps43
    go_wp2_with (fail)
    have q2 : (w.alloc (.cells x.cells 35)).cell? ⟨w.heap.size, 2, none⟩ = some (.slice x.A x.len x.cap) := (cf_cells (Blk.new w _ x.cells)).2.2.1
    have q4 : (w.alloc (.cells x.cells 35)).cell? ⟨w.heap.size, 4, none⟩ = some (.int .i64 x.jn) := (cf_cells (Blk.new w _ x.cells)).2.2.2.2
    have q5 : w.heap.size < (w.alloc (.cells x.cells 35)).heap.size := by simp
    have HB0 : Hid (Below w.heap.size w (w.alloc (.cells x.cells 35))) := Lib.hid ((Below.refl _ _).alloc (Nat.le_refl _) _)
    have HR : Hid (Reads (w.alloc (.cells x.cells 35)) B 1 x.A x.len (x.zs.map (Value.int .i64))) := Lib.hid (HX.out.rd.alloc hB _)
    unfold Cf.cells at *
    generalize w.alloc (.cells #[.int .i64 x.ch, .int .u64 x.ep, .slice x.A x.len x.cap, .bool x.fr, .int .i64 x.jn] 35) = w0 at *
    go_region_held3 (fun w' => w'.cell? ⟨w.heap.size, 2, none⟩ = some (.slice x.A x.len x.cap) ∧ w'.cell? ⟨w.heap.size, 4, none⟩ = some (.int .i64 x.jn)) (go_keep) (first
      | (go_at_call 39; refine (clone_int x.A x.len x.cap B x.zs _ ?_ ?_ (by omega)).mono ?_; (· first | omega | (simp; omega)); (· repeat (first | with_reducible refine Reads.alloc ?_ (by first | omega | (simp; omega)) _ | with_reducible refine Reads.drewN ?_ _ | with_reducible refine Reads.drew ?_ | with_reducible exact HR.out)); rintro e w6 ⟨v, rfl, h1, h2⟩; obtain ⟨A1, cc1, rfl, _, _, _⟩ := own_slice h1; have HO := Lib.hid h1; have HB6 := Lib.hid h2; replace q2 := cell_relay q2 q5 h2 (by repeat (first | with_reducible exact Below.refl _ _ | with_reducible refine Below.alloc ?_ (by simp <;> omega) _ | with_reducible refine below_drewN ?_ _ | with_reducible refine Below.drew ?_)); replace q4 := cell_relay q4 q5 h2 (by repeat (first | with_reducible exact Below.refl _ _ | with_reducible refine Below.alloc ?_ (by simp <;> omega) _ | with_reducible refine below_drewN ?_ _ | with_reducible refine Below.drew ?_)))
      | (refine step_append_any _ ?_ (.tmp 11) (.tmp 14) 33 ?_ w0.heap.size 3 i0 (.int .i64 0) 1 8 Try.underlying33 hi hz0 hz1 hz2 rfl (by omega) (.slice A1 x.len cc1) x.len (x.zs.map (Value.int .i64)) ?_ ?_ (w6.heap.size + 1) (some ⟨w6.heap.size, 0, none⟩) 1 1 [.int .i64 x.jn] ?_ ?_ ?_ ?_ ?_ ?_ ?_; (· rfl); (· rfl); (· rfl); (· exact own_mono (World.ownsRow.alloc HO.out _) (by simp)); (· rfl); (· refine ⟨rfl, fun _ => ⟨_, rfl, (by (have := HB6.out.size; try simp at this); simp <;> omega), fun j u hu => ?_⟩⟩; exact cells_new _ _ _ j u hu); (· intro u hu; simp at hu; subst hu; rfl); (· unfold maxLen; omega); (· omega); (· (have := HB6.out.size; try simp at this); first | omega | (simp; omega)); intro v8 w8 g1 g2 g3; have HO8 := Lib.hid g1; have HB8 := Lib.hid (app_below HB0.out (Nat.le_of_lt q5) (by repeat (first | with_reducible exact Below.refl _ _ | with_reducible refine Below.alloc ?_ (by simp <;> omega) _ | with_reducible refine below_drewN ?_ _ | with_reducible refine Below.drew ?_)) HB6.out (by repeat (first | with_reducible exact Below.refl _ _ | with_reducible refine Below.alloc ?_ (by simp <;> omega) _ | with_reducible refine below_drewN ?_ _ | with_reducible refine Below.drew ?_)) g2 (fun k hk => by (have := (HO.out.lt k hk).1; try simp at this); omega)); replace q2 := cell_app q2 (by (have := HB6.out.size; try simp at this); show w.heap.size < _; omega) (by repeat (first | with_reducible exact Below.refl _ _ | with_reducible refine Below.alloc ?_ (by simp <;> omega) _ | with_reducible refine below_drewN ?_ _ | with_reducible refine Below.drew ?_)) g2 (fun k hk => by (have := (HO.out.lt k hk).1; try simp at this); show w.heap.size < k; omega); replace q4 := cell_app q4 (by (have := HB6.out.size; try simp at this); show w.heap.size < _; omega) (by repeat (first | with_reducible exact Below.refl _ _ | with_reducible refine Below.alloc ?_ (by simp <;> omega) _ | with_reducible refine below_drewN ?_ _ | with_reducible refine Below.drew ?_)) g2 (fun k hk => by (have := (HO.out.lt k hk).1; try simp at this); show w.heap.size < k; omega); clear g1 g2 g3)
      | (refine step_append_any _ ?_ (.tmp 11) (.tmp 14) 33 ?_ w0.heap.size 3 i0 (.int .i64 0) 1 8 Try.underlying33 hi hz0 hz1 hz2 rfl (by omega) (.slice A1 x.len cc1) x.len (x.zs.map (Value.int .i64)) ?_ ?_ (w6.heap.size + 1) (some ⟨w0.heap.size, 0, none⟩) 1 1 [.int .i64 x.jn] ?_ ?_ ?_ ?_ ?_ ?_ ?_; (· rfl); (· rfl); (· rfl); (· exact own_mono HO.out (by simp)); (· rfl); (· refine ⟨rfl, fun _ => ⟨_, rfl, (by (have := HB6.out.size; try simp at this); simp <;> omega), fun j u hu => ?_⟩⟩; exact (HB6.out.cell (by simp [block_of_add])).trans (cells_new w0 #[.int .i64 x.jn] 3 j u hu)); (· intro u hu; simp at hu; subst hu; rfl); (· unfold maxLen; omega); (· omega); (· (have := HB6.out.size; try simp at this); first | omega | (simp; omega)); intro v8 w8 g1 g2 g3; have HO8 := Lib.hid g1; have HB8 := Lib.hid (app_below HB0.out (Nat.le_of_lt q5) (by repeat (first | with_reducible exact Below.refl _ _ | with_reducible refine Below.alloc ?_ (by simp <;> omega) _ | with_reducible refine below_drewN ?_ _ | with_reducible refine Below.drew ?_)) HB6.out (by repeat (first | with_reducible exact Below.refl _ _ | with_reducible refine Below.alloc ?_ (by simp <;> omega) _ | with_reducible refine below_drewN ?_ _ | with_reducible refine Below.drew ?_)) g2 (fun k hk => by (have := (HO.out.lt k hk).1; try simp at this); omega)); replace q2 := cell_app q2 (by (have := HB6.out.size; try simp at this); show w.heap.size < _; omega) (by repeat (first | with_reducible exact Below.refl _ _ | with_reducible refine Below.alloc ?_ (by simp <;> omega) _ | with_reducible refine below_drewN ?_ _ | with_reducible refine Below.drew ?_)) g2 (fun k hk => by (have := (HO.out.lt k hk).1; try simp at this); show w.heap.size < k; omega); replace q4 := cell_app q4 (by (have := HB6.out.size; try simp at this); show w.heap.size < _; omega) (by repeat (first | with_reducible exact Below.refl _ _ | with_reducible refine Below.alloc ?_ (by simp <;> omega) _ | with_reducible refine below_drewN ?_ _ | with_reducible refine Below.drew ?_)) g2 (fun k hk => by (have := (HO.out.lt k hk).1; try simp at this); show w.heap.size < k; omega); clear g1 g2 g3) | fail)
    all_goals
      obtain ⟨A8, cc8, rfl, _, _, _⟩ := own_slice HO8.out
      go_wp2
      go_ret
      exact ⟨_, rfl, by rw [← HS.out, List.length_append, HL.out]; simpa using own_mono HO8.out (Nat.le_of_lt q5), HB8.out⟩
theorem everybody_at (x : Cf) (B : Nat) (w : World) (v : Value) (hv : v = x.agg) (hx : CfIn w B x) (hB : B ≤ w.heap.size) (hn : x.len ≤ 1000000) :
    Calls Try.prog 43 #[v] w fun e w' => ∃ v, e = .returned v ∧ w'.ownsRow w.heap.size 3 1 v x.stands.length (x.stands.map (Value.int .i64)) ∧ Below w.heap.size w w' := by
  subst hv; exact everybody_any x B w hx hB hn
theorem stands_at (x : Cf) (B : Nat) (w : World) (v : Value) (hv : v = x.agg) (hx : CfIn w B x) (hB : B ≤ w.heap.size) (hn : x.len ≤ 1000000) :
    Calls Try.prog 33 #[v] w fun e w' => ∃ v, e = .returned v ∧ w'.ownsRow w.heap.size 3 1 v x.stands.length (x.stands.map (Value.int .i64)) ∧ Below w.heap.size w w' := by
  subst hv; exact stands_any x B w hx hB hn
/-- nodes: the reference -/
theorem refUnlike_any (A : Option Addr) (n c B : Nat) (zs : List Int) (w : World) (hr : Reads w B 1 A n (zs.map (Value.int .i64))) (hn : n ≤ c) (hc : c ≤ maxLen) :
    Calls Try.prog 34 #[.slice A n c] w fun e w' => e = .returned (.bool (unlikeB zs)) ∧ Below w.heap.size w w' := by
  unfold maxLen at hc
  have HR := Lib.hid hr
  have HL : Hid (zs.length = n) := Lib.hid (by have := hr.1; simpa using this)
  clear hr
  go_enter Try.func34, Try.ntmps34
  go_wp2
  go_loopw [3] (fun i wr => ∃ k m : Nat, k ≤ n ∧ i = .int .i64 k ∧ wr = w.drewN m ∧ Hid (Unl (zs.take k))) (fun i _ => n - (intOf i).toNat)
  case atStart => exact ⟨0, 0, by omega, rfl, rfl, Lib.hid (by simpa using unl_nil)⟩
  case round =>
    obtain ⟨k, m, hk, rfl, rfl, hno⟩ := hrel
    by_cases hlt : k < n
    · obtain ⟨ad, z, rfl, _, hz, hcell⟩ := reads_int HR.out hlt
      have HZ := Lib.hid hz
      clear hz
      have hlt' : (k : Int) < n := by omega
      have hkn' : (k : Int) ≤ n := by omega
      have hkc' : (k : Int) ≤ c := by omega
      have hk0' : (0 : Int) ≤ k := by omega
      have HT : Hid (Reads w B 1 (some ad) k ((zs.take k).map (Value.int .i64))) := Lib.hid (by
        have := HR.out.take (k := k) (by omega)
        rwa [← List.map_take] at this)
      by_cases h1 : z < 1
      · have hi := Lib.hid (unlikeB_no (unl_not_node HZ.out (by cases hh : nodeB z; rfl; have := (nodeB_iff z).1 hh; omega)))
        have h1' : decide (z < 1) = true := by simp [h1]
        go_wp2_with (fail)
        go_quiet ((go_at_call 46; exact quiet_add_left (refHas_any (some ad) k c B (zs.take k) z _ (HT.out.drewN _) (by unfold maxLen; omega))))
        go_wp2
        go_ret
        exact ⟨ret_bool hi.out, below_drewN (below_drewN (Below.refl _ _) _) _⟩
      · have h1' : decide (z < 1) = false := by simp; omega
        by_cases h2 : 24 < z
        · have hi := Lib.hid (unlikeB_no (unl_not_node HZ.out (by cases hh : nodeB z; rfl; have := (nodeB_iff z).1 hh; omega)))
          have h2' : decide (24 < z) = true := by simp [h2]
          go_wp2_with (fail)
          go_quiet ((go_at_call 46; exact quiet_add_left (refHas_any (some ad) k c B (zs.take k) z _ (HT.out.drewN _) (by unfold maxLen; omega))))
          go_wp2
          go_ret
          exact ⟨ret_bool hi.out, below_drewN (below_drewN (Below.refl _ _) _) _⟩
        · have h2' : decide (24 < z) = false := by simp; omega
          have HN : Hid (nodeB z = true) := Lib.hid ((nodeB_iff z).2 (by omega))
          by_cases hm : z ∈ zs.take k
          · have hd : decide (z ∈ zs.take k) = true := by simp [hm]
            have hi := Lib.hid (unlikeB_no (unl_not_twice HZ.out hm))
            clear hm
            go_wp2_with (fail)
            go_quiet ((go_at_call 46; exact quiet_add_left (refHas_any (some ad) k c B (zs.take k) z _ (HT.out.drewN _) (by unfold maxLen; omega))))
            go_wp2
            go_ret
            exact ⟨ret_bool hi.out, below_drewN (below_drewN (Below.refl _ _) _) _⟩
          · have hd : decide (z ∈ zs.take k) = false := by simp [hm]
            have hi := Lib.hid (unl_step hno.out HZ.out HN.out hm)
            clear hm
            go_wp2_with (fail)
            go_quiet ((go_at_call 46; exact quiet_add_left (refHas_any (some ad) k c B (zs.take k) z _ (HT.out.drewN _) (by unfold maxLen; omega))))
            go_wp2
            go_roundw
            case rel => exact ⟨k + 1, _, by omega, by go_num, rfl, hi⟩
            case measure => simp [intOf]; omega
    · have hs : Hid (true = unlikeB zs) := Lib.hid (by
        have := hno.out
        rw [List.take_of_length_le (by rw [HL.out]; omega)] at this
        exact ((unlikeB_iff zs).2 this).symm)
      go_wp2
      go_ret
      exact ⟨ret_bool hs.out, below_drewN (Below.refl _ _) _⟩





theorem right_any (x : Cf) (B : Nat) (w : World) (hx : CfIn w B x) (hB : B ≤ w.heap.size) :
    Calls Try.prog 42 #[x.agg] w fun e w' => e = .returned (.bool x.right) ∧ Below w.heap.size w w' := by
  have HX := Lib.hid hx
  have hc := hx.hc
  have hm := hx.hm
  unfold maxLen at hm
  clear hx
  by_cases h1 : x.ch < 0
  · go_enter Try.func42, Try.ntmps42
    
    have hN := Lib.hid (Cf.right_no (x := x) (fun h => by have q1 := h.1; have q2 := h.2.1; have q3 := h.2.2.1; omega))
    go_wp2_with (fail)
    go_ret
    exact ⟨ret_bool hN.out, (Below.refl _ _).alloc (Nat.le_refl _) _⟩
  by_cases h2 : 4 ≤ x.ch
  · go_enter Try.func42, Try.ntmps42
    
    have hN := Lib.hid (Cf.right_no (x := x) (fun h => by have q1 := h.1; have q2 := h.2.1; have q3 := h.2.2.1; omega))
    go_wp2_with (fail)
    go_ret
    exact ⟨ret_bool hN.out, (Below.refl _ _).alloc (Nat.le_refl _) _⟩
  by_cases h3 : x.ep = 0
  · have h3' : ((x.ep : Int) < 1) = True := by simp; omega
    go_enter Try.func42, Try.ntmps42
    
    have hN := Lib.hid (Cf.right_no (x := x) (fun h => by have q1 := h.1; have q2 := h.2.1; have q3 := h.2.2.1; omega))
    go_wp2_with (fail)
    go_ret
    exact ⟨ret_bool hN.out, (Below.refl _ _).alloc (Nat.le_refl _) _⟩
  have h3' : ((x.ep : Int) < 1) = False := by simp; omega
  by_cases h4 : x.len < 1
  · go_enter Try.func42, Try.ntmps42
    
    have hN := Lib.hid (Cf.right_no (x := x) (fun h => by have q1 := h.1; have q2 := h.2.1; have q3 := h.2.2.1; omega))
    go_wp2_with (fail)
    go_ret
    exact ⟨ret_bool hN.out, (Below.refl _ _).alloc (Nat.le_refl _) _⟩
  by_cases h5 : 5 < x.len
  · go_enter Try.func42, Try.ntmps42
    
    have hN := Lib.hid (Cf.right_no (x := x) (fun h => by have q1 := h.1; have q2 := h.2.1; have q3 := h.2.2.1; omega))
    go_wp2_with (fail)
    go_ret
    exact ⟨ret_bool hN.out, (Below.refl _ _).alloc (Nat.le_refl _) _⟩
  cases hf : x.fr
  · go_enter Try.func42, Try.ntmps42
    
    have hY := Lib.hid (Cf.right_yes (x := x) ⟨by omega, by omega, by omega, fun q => by rw [hf] at q; first | exact Bool.noConfusion q | omega⟩)
    go_wp2_with (fail)
    refine (everybody_at x B _ _ (by simp [Cf.agg, *]) (HX.out.alloc hB _) (by simp; omega) (by omega)).mono ?_
    rintro e w1 ⟨v, rfl, g1, g2⟩
    obtain ⟨A1, c1, rfl, gr, gn1, gm1⟩ := own_slice g1
    have HR := Lib.hid gr
    have H2 := Lib.hid g2
    clear g1 g2 gr
    go_wp2_with (first | (go_at_call 44; refine (unlike_any A1 _ c1 _ x.stands _ HR.out gn1 gm1).mono ?_; rintro e w' ⟨rfl, rfl⟩) | fail)
    go_ret
    exact ⟨ret_bool hY.out, ((Below.refl _ _).alloc (Nat.le_refl _) _).trans (H2.out.mono (by simp))⟩
  by_cases h6 : x.len < 2
  · go_enter Try.func42, Try.ntmps42
    
    have hN := Lib.hid (Cf.right_no (x := x) (fun h => by have q1 := h.2.2.2 hf; omega))
    go_wp2_with (fail)
    go_ret
    exact ⟨ret_bool hN.out, (Below.refl _ _).alloc (Nat.le_refl _) _⟩
  by_cases h7 : x.jn = 0
  · have h7' : (x.jn != 0) = false := by simp [h7]
    go_enter Try.func42, Try.ntmps42
    
    have hY := Lib.hid (Cf.right_yes (x := x) ⟨by omega, by omega, by omega, fun q => by rw [hf] at q; first | exact Bool.noConfusion q | omega⟩)
    go_wp2_with (fail)
    refine (everybody_at x B _ _ (by simp [Cf.agg, *]) (HX.out.alloc hB _) (by simp; omega) (by omega)).mono ?_
    rintro e w1 ⟨v, rfl, g1, g2⟩
    obtain ⟨A1, c1, rfl, gr, gn1, gm1⟩ := own_slice g1
    have HR := Lib.hid gr
    have H2 := Lib.hid g2
    clear g1 g2 gr
    go_wp2_with (first | (go_at_call 44; refine (unlike_any A1 _ c1 _ x.stands _ HR.out gn1 gm1).mono ?_; rintro e w' ⟨rfl, rfl⟩) | fail)
    go_ret
    exact ⟨ret_bool hY.out, ((Below.refl _ _).alloc (Nat.le_refl _) _).trans (H2.out.mono (by simp))⟩
  · have h7' : (x.jn != 0) = true := by simp [h7]
    go_enter Try.func42, Try.ntmps42
    
    have hN := Lib.hid (Cf.right_no (x := x) (fun h => by have q1 := h.2.2.2 hf; omega))
    go_wp2_with (fail)
    go_ret
    exact ⟨ret_bool hN.out, (Below.refl _ _).alloc (Nat.le_refl _) _⟩

theorem refRight_any (x : Cf) (B : Nat) (w : World) (hx : CfIn w B x) (hB : B ≤ w.heap.size) :
    Calls Try.prog 32 #[x.agg] w fun e w' => e = .returned (.bool x.right) ∧ Below w.heap.size w w' := by
  have HX := Lib.hid hx
  have hc := hx.hc
  have hm := hx.hm
  unfold maxLen at hm
  clear hx
  by_cases h1 : x.ch < 0
  · go_enter Try.func32, Try.ntmps32
    
    have hN := Lib.hid (Cf.right_no (x := x) (fun h => by have q1 := h.1; have q2 := h.2.1; have q3 := h.2.2.1; omega))
    go_wp2_with (fail)
    go_ret
    exact ⟨ret_bool hN.out, (Below.refl _ _).alloc (Nat.le_refl _) _⟩
  by_cases h2 : 3 < x.ch
  · go_enter Try.func32, Try.ntmps32
    
    have hN := Lib.hid (Cf.right_no (x := x) (fun h => by have q1 := h.1; have q2 := h.2.1; have q3 := h.2.2.1; omega))
    go_wp2_with (fail)
    go_ret
    exact ⟨ret_bool hN.out, (Below.refl _ _).alloc (Nat.le_refl _) _⟩
  by_cases h3 : x.ep = 0
  · have h3' : ((x.ep : Int) == 0) = true := by simp; omega
    go_enter Try.func32, Try.ntmps32
    
    have hN := Lib.hid (Cf.right_no (x := x) (fun h => by have q1 := h.1; have q2 := h.2.1; have q3 := h.2.2.1; omega))
    go_wp2_with (fail)
    go_ret
    exact ⟨ret_bool hN.out, (Below.refl _ _).alloc (Nat.le_refl _) _⟩
  have h3' : ((x.ep : Int) == 0) = false := by simp; omega
  by_cases h4 : x.len < 1
  · have h4' : ((x.len : Int) == 0) = true := by simp; omega
    go_enter Try.func32, Try.ntmps32
    
    have hN := Lib.hid (Cf.right_no (x := x) (fun h => by have q1 := h.1; have q2 := h.2.1; have q3 := h.2.2.1; omega))
    go_wp2_with (fail)
    go_ret
    exact ⟨ret_bool hN.out, (Below.refl _ _).alloc (Nat.le_refl _) _⟩
  have h4' : ((x.len : Int) == 0) = false := by simp; omega
  by_cases h5 : 5 < x.len
  · go_enter Try.func32, Try.ntmps32
    
    have hN := Lib.hid (Cf.right_no (x := x) (fun h => by have q1 := h.1; have q2 := h.2.1; have q3 := h.2.2.1; omega))
    go_wp2_with (fail)
    go_ret
    exact ⟨ret_bool hN.out, (Below.refl _ _).alloc (Nat.le_refl _) _⟩
  cases hf : x.fr
  · go_enter Try.func32, Try.ntmps32
    
    have hY := Lib.hid (Cf.right_yes (x := x) ⟨by omega, by omega, by omega, fun q => by rw [hf] at q; first | exact Bool.noConfusion q | omega⟩)
    go_wp2_with (fail)
    refine (stands_at x B _ _ (by simp [Cf.agg, *]) (HX.out.alloc hB _) (by simp; omega) (by omega)).mono ?_
    rintro e w1 ⟨v, rfl, g1, g2⟩
    obtain ⟨A1, c1, rfl, gr, gn1, gm1⟩ := own_slice g1
    have HR := Lib.hid gr
    have H2 := Lib.hid g2
    clear g1 g2 gr
    go_wp2_with (fail)
    refine (refUnlike_any A1 _ c1 _ x.stands _ HR.out gn1 gm1).mono ?_
    rintro e w2 ⟨rfl, g2⟩
    have H3 := Lib.hid (H2.out.trans (g2.mono H2.out.size))
    clear g2
    go_wp2
    go_ret
    exact ⟨ret_bool hY.out, ((Below.refl _ _).alloc (Nat.le_refl _) _).trans (H3.out.mono (by simp))⟩
  by_cases h6 : x.len < 2
  · have h6' : ((x.len : Int) == 1) = true := by simp; omega
    go_enter Try.func32, Try.ntmps32
    
    have hN := Lib.hid (Cf.right_no (x := x) (fun h => by have q1 := h.2.2.2 hf; omega))
    go_wp2_with (fail)
    go_ret
    exact ⟨ret_bool hN.out, (Below.refl _ _).alloc (Nat.le_refl _) _⟩
  have h6' : ((x.len : Int) == 1) = false := by simp; omega
  by_cases h7 : x.jn = 0
  · have h7' : (x.jn != 0) = false := by simp [h7]
    go_enter Try.func32, Try.ntmps32
    
    have hY := Lib.hid (Cf.right_yes (x := x) ⟨by omega, by omega, by omega, fun q => by rw [hf] at q; first | exact Bool.noConfusion q | omega⟩)
    go_wp2_with (fail)
    refine (stands_at x B _ _ (by simp [Cf.agg, *]) (HX.out.alloc hB _) (by simp; omega) (by omega)).mono ?_
    rintro e w1 ⟨v, rfl, g1, g2⟩
    obtain ⟨A1, c1, rfl, gr, gn1, gm1⟩ := own_slice g1
    have HR := Lib.hid gr
    have H2 := Lib.hid g2
    clear g1 g2 gr
    go_wp2_with (fail)
    refine (refUnlike_any A1 _ c1 _ x.stands _ HR.out gn1 gm1).mono ?_
    rintro e w2 ⟨rfl, g2⟩
    have H3 := Lib.hid (H2.out.trans (g2.mono H2.out.size))
    clear g2
    go_wp2
    go_ret
    exact ⟨ret_bool hY.out, ((Below.refl _ _).alloc (Nat.le_refl _) _).trans (H3.out.mono (by simp))⟩
  · have h7' : (x.jn != 0) = true := by simp [h7]
    go_enter Try.func32, Try.ntmps32
    
    have hN := Lib.hid (Cf.right_no (x := x) (fun h => by have q1 := h.2.2.2 hf; omega))
    go_wp2_with (fail)
    go_ret
    exact ⟨ret_bool hN.out, (Below.refl _ _).alloc (Nat.le_refl _) _⟩
end Go.Proofs.Ytidfnajbanjnaaa
