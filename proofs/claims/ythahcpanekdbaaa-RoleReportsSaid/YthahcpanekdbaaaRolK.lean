/- Contracts: conf.Settled; Missing, of both. -/
import Derived.Test.YthahcpanekdbaaaRolJ
namespace Go.Proofs.Ythahcpanekdbaaa
open Go.RowKit
set_option linter.unusedSimpArgs false
set_option linter.unusedVariables false
set_option maxHeartbeats 4000000
attribute [local go_sem] Cf.agg Cf.cells

theorem settled0_any (x : Cf) (B : Nat) (w : World) (hx : CfIn w B x) (hB : B ≤ w.heap.size) (hR : x.right = true) :
    Calls Try.prog 35 #[x.agg] w fun e w' => ∃ v, e = .returned v ∧ w'.ownsRow w.heap.size 3 1 v x.setN (x.setL.map (Value.int .i64)) ∧ Below w.heap.size w w' := by
  have HX := Lib.hid hx
  clear hx
  have hf := (Cf.right_fine hR).1
  have h5 := hf.2.2.1
  have h2 := hf.2.2.2
  cases hF : x.fr
  · have hs : Hid (x.setN = x.len) := Lib.hid (by rw [Cf.setN, hR, hF]; rfl)
    have hl : Hid (x.setL = x.zs) := Lib.hid (by rw [Cf.setL, hs.out, List.take_of_length_le (by rw [HX.out.len_eq]; exact Nat.le_refl _)])
    rw [hs.out, hl.out]
    clear hf h2
    go_enter Try.func35, Try.ntmps35
    go_wp2_with (fail)
    refine (clone_int x.A x.len x.cap B x.zs _ (by simp; omega) (HX.out.rd.alloc hB _) (by omega)).mono ?_
    rintro e w1 ⟨v, rfl, h1, h2⟩
    have H1 := Lib.hid h1
    have H2 := Lib.hid h2
    clear h1 h2
    go_wp2
    go_ret
    exact ⟨_, rfl, own_mono H1.out (by simp), box_below H2.out⟩
  · have hm2 : 2 ≤ x.len := (h2 hF).1
    have hs : Hid (x.setN = x.len - 1) := Lib.hid (by rw [Cf.setN, hR, hF]; rfl)
    have hl : Hid (x.setL = x.zs.take (x.len - 1)) := Lib.hid (by rw [Cf.setL, hs.out])
    rw [hs.out, hl.out]
    have hc1 : (x.len : Int) - 1 ≤ x.cap := by have := HX.out.hc; omega
    have hc0 : (0 : Int) ≤ (x.len : Int) - 1 := by omega
    have ht : ((x.len : Int) - 1).toNat = x.len - 1 := by omega
    have hw1 : IntKind.i64.wrap ((x.len : Int) - 1) = (x.len : Int) - 1 := by rw [IntKind.wrap_i64]; omega
    clear hf h2
    go_enter Try.func35, Try.ntmps35
    go_wp2_with (fail)
    refine (clone_int x.A (x.len - 1) x.cap B (x.zs.take (x.len - 1)) _ (by simp; omega) ?_ (by omega)).mono ?_
    · have := (HX.out.rd.take (k := x.len - 1) (by omega))
      rw [← List.map_take] at this
      exact this.alloc hB _
    rintro e w1 ⟨v, rfl, h1, h2⟩
    have H1 := Lib.hid h1
    have H2 := Lib.hid h2
    clear h1 h2
    go_wp2
    go_ret
    exact ⟨_, rfl, own_mono H1.out (by simp), box_below H2.out⟩

theorem settled_any (x : Cf) (B : Nat) (w : World) (hx : CfIn w B x) (hB : B ≤ w.heap.size) :
    Calls Try.prog 29 #[x.agg] w fun e w' => ∃ v, e = .returned v ∧ w'.ownsRow w.heap.size 3 1 v x.setN (x.setL.map (Value.int .i64)) ∧ Below w.heap.size w w' := by
  have HX := Lib.hid hx
  clear hx
  cases hR : x.right
  · have hs : Hid (x.setN = 0) := Lib.hid (by rw [Cf.setN, hR]; rfl)
    have hl : Hid (x.setL = []) := Lib.hid (by rw [Cf.setL, hs.out]; rfl)
    rw [hs.out, hl.out]
    go_enter Try.func29, Try.ntmps29
    go_wp2_with (fail)
    refine (right_any x B _ (HX.out.alloc hB _) (by simp; omega)).mono ?_
    rintro e w1 ⟨rfl, h⟩
    have H1 := Lib.hid (box_below h)
    clear h
    go_wp2
    go_ret
    exact ⟨_, rfl, World.ownsRow_nil _ _ _ _, H1.out⟩
  · have HR := Lib.hid hR
    go_enter Try.func29, Try.ntmps29
    go_wp2_with (fail)
    refine (right_any x B _ (HX.out.alloc hB _) (by simp; omega)).mono ?_
    rintro e w1 ⟨rfl, h⟩
    have H1 := Lib.hid (box_below h)
    obtain ⟨c0, c1, c2, c3, c4⟩ := cf_cells (x := x) ((Blk.new w 25 x.cells).below h (by simp))
    clear h
    go_wp2_with (fail)
    refine (settled0_any x B _ (HX.out.below (H1.out.mono hB)) (Nat.le_trans hB H1.out.size) HR.out).mono ?_
    rintro e w2 ⟨v, rfl, h1, h2⟩
    have H2 := Lib.hid h1
    have H3 := Lib.hid (H1.out.trans (h2.mono H1.out.size))
    clear h1 h2
    go_wp2
    go_ret
    exact ⟨_, rfl, own_mono H2.out H1.out.size, H3.out⟩

theorem missF_any (z : Int) (g : Nat) (A : Option Addr) (n c B : Nat) (ds : List Int) (w : World) (hg : w.cell? ⟨g, 0, none⟩ = some (.slice A n c)) (hr : Reads w B 1 A n (ds.map (Value.int .i64))) (hn : n ≤ maxLen) :
    Calls Try.prog 30 #[.int .i64 z, .pointer (some ⟨g, 0, none⟩)] w fun e w' => e = .returned (.bool (!decide (z ∈ ds))) ∧ w = w' := by
  have HR := Lib.hid hr
  clear hr
  go_enter Try.func30, Try.ntmps30
  go_wp2_with (first | (go_at_call 26; refine (contains_any A n c B ds z _ HR.out hn).mono ?_; rintro e w' ⟨rfl, rfl⟩) | fail)
  go_ret
  exact ⟨rfl, rfl⟩

theorem indexF_any (g : Nat) (A C : Option Addr) (n c m d B D : Nat) (zs ds : List Int) (w : World) (hg : w.cell? ⟨g, 0, none⟩ = some (.slice C m d)) (hd : Reads w D 1 C m (ds.map (Value.int .i64))) (hm : m ≤ maxLen)
    (hr : Reads w B 1 A n (zs.map (Value.int .i64))) (hn : n ≤ maxLen) :
    Calls Try.prog 34 #[.slice A n c, .func (.func 30) #[] #[.pointer (some ⟨g, 0, none⟩)]] w fun e w' => ∃ r : Int, e = .returned (.int .i64 r) ∧ (0 ≤ r ↔ ∃ z ∈ zs, z ∉ ds) ∧ w = w' := by
  unfold maxLen at hn
  have HR := Lib.hid hr
  have HD := Lib.hid hd
  have HG := Lib.hid hg
  have HL : Hid (zs.length = n) := Lib.hid (by have := hr.1; simpa using this)
  clear hr hd hg
  go_enter Try.func34, Try.ntmps34
  go_wp2
  go_loop [5, 8] (fun _ i => ∃ k : Nat, k ≤ n ∧ i = .int .i64 k ∧ Hid (∀ z ∈ zs.take k, z ∈ ds)) (fun _ i => n - (intOf i).toNat)
  case atStart => exact ⟨0, by omega, rfl, Lib.hid (by simp)⟩
  case round =>
    obtain ⟨k, hk, rfl, hno⟩ := hrel
    by_cases hlt : k < n
    · obtain ⟨ad, z, rfl, _, hz, hcell⟩ := reads_int HR.out hlt
      have HZ := Lib.hid hz
      clear hz
      have hlt' : (k : Int) < n := by omega
      by_cases hin : z ∈ ds
      · have hd1 : decide (z ∈ ds) = true := by simp [hin]
        have hs : Hid (∀ z ∈ zs.take (k + 1), z ∈ ds) := Lib.hid (by
          intro u hu
          rw [List.take_add_one, HZ.out, List.mem_append] at hu
          rcases hu with hu | hu
          · exact hno.out u hu
          · simp at hu; rw [hu]; exact hin)
        clear hin
        go_wp2_with (first | (go_at_call 30; refine (missF_any z g C m d D ds _ HG.out HD.out hm).mono ?_; rintro e w' ⟨rfl, rfl⟩) | fail)
        go_round
        case rel => exact ⟨k + 1, by omega, by go_num, hs⟩
        case measure => simp [intOf]; omega
      · have hd1 : decide (z ∈ ds) = false := by simp [hin]
        have hs : Hid (∃ z ∈ zs, z ∉ ds) := Lib.hid ⟨z, List.mem_of_getElem? HZ.out, hin⟩
        clear hin
        go_wp2_with (first | (go_at_call 30; refine (missF_any z g C m d D ds _ HG.out HD.out hm).mono ?_; rintro e w' ⟨rfl, rfl⟩) | fail)
        go_ret
        exact ⟨_, rfl, ⟨fun _ => hs.out, fun _ => by omega⟩, rfl⟩
    · have hs : Hid (∀ z ∈ zs, z ∈ ds) := Lib.hid (by
        have := hno.out
        rwa [List.take_of_length_le (by rw [HL.out]; omega)] at this)
      go_wp2
      go_ret
      exact ⟨_, rfl, ⟨fun h => by omega, fun ⟨z, h1, h2⟩ => absurd (hs.out z h1) h2⟩, rfl⟩

theorem containsF_any (g : Nat) (A C : Option Addr) (n c m d B D : Nat) (zs ds : List Int) (w : World) (hg : w.cell? ⟨g, 0, none⟩ = some (.slice C m d)) (hd : Reads w D 1 C m (ds.map (Value.int .i64))) (hm : m ≤ maxLen)
    (hr : Reads w B 1 A n (zs.map (Value.int .i64))) (hn : n ≤ maxLen) :
    Calls Try.prog 28 #[.slice A n c, .func (.func 30) #[] #[.pointer (some ⟨g, 0, none⟩)]] w fun e w' => e = .returned (.bool (decide (∃ z ∈ zs, z ∉ ds))) ∧ w = w' := by
  have I := Lib.hid (indexF_any g A C n c m d B D zs ds w hg hd hm hr hn)
  clear hg hd hr
  go_enter Try.func28, Try.ntmps28
  go_wp2_with (fail)
  refine I.out.mono ?_
  rintro e w1 ⟨r, rfl, hrr, rfl⟩
  by_cases h : 0 ≤ r
  · have hv : Hid (true = decide (∃ z ∈ zs, z ∉ ds)) := Lib.hid (by simp only [hrr.1 h, decide_true])
    clear hrr
    go_wp2
    go_ret
    exact ⟨ret_bool hv.out, rfl⟩
  · have hv : Hid (false = decide (∃ z ∈ zs, z ∉ ds)) := Lib.hid (by
      have : ¬ ∃ z ∈ zs, z ∉ ds := fun hh => h (hrr.2 hh)
      simp only [this, decide_false])
    have h' : decide (0 ≤ r) = false := by simp [h]
    have HH := Lib.hid h'
    clear hrr
    go_wp2
    go_ret
    exact ⟨ret_bool (by first | exact hv.out | (rw [HH.out]; exact hv.out)), rfl⟩

noncomputable def missV (x : Cf) (ds : List Int) : Bool := decide (∀ z ∈ x.setL, z ∈ ds)
theorem missV_not (x : Cf) (ds : List Int) : (!decide (∃ z ∈ x.setL, z ∉ ds)) = missV x ds := by
  unfold missV
  by_cases h : ∀ z ∈ x.setL, z ∈ ds
  · have h2 : ¬ ∃ z ∈ x.setL, z ∉ ds := fun ⟨z, h1, h3⟩ => h3 (h z h1)
    rw [decide_eq_true h, decide_eq_false h2]; rfl
  · have h2 : ∃ z ∈ x.setL, z ∉ ds := by
      refine Classical.byContradiction fun hn => h fun z hz => ?_
      exact Classical.byContradiction fun hd => hn ⟨z, hz, hd⟩
    rw [decide_eq_false h, decide_eq_true h2]; rfl
theorem missing_any (x : Cf) (C : Option Addr) (m d B : Nat) (ds : List Int) (w : World) (hx : CfIn w B x) (hB : B ≤ w.heap.size) (hd : Reads w B 1 C m (ds.map (Value.int .i64))) (hm : m ≤ maxLen) :
    Calls Try.prog 20 #[x.agg, .slice C m d] w fun e w' => e = .returned (.bool (missV x ds)) ∧ Below w.heap.size w w' := by
  have HX := Lib.hid hx
  have HD := Lib.hid hd
  have hmf : ∀ (fn : Fn) (first cap : Array Value) (w : World), (Instr.makeFunc fn first cap).run Try.prog w = .ok (.func fn first cap) w := fun _ _ _ _ => rfl
  clear hx hd
  go_enter Try.func20, Try.ntmps20
  go_wp2_with (fail)
  refine (settled_any x B _ ((HX.out.alloc hB _).alloc (by simp; omega) _) (by simp; omega)).mono ?_
  rintro e w1 ⟨v, rfl, h1, h2⟩
  obtain ⟨A1, c1, rfl, hr, hn1, hm1⟩ := own_slice h1
  have H1 := Lib.hid (box2_below h2)
  have hcell : w1.cell? ⟨w.heap.size + 1, 0, none⟩ = some (.slice C m d) := by
    have := ((blk_new_at (w.alloc (.cells x.cells 25)) 23 #[.slice C m d] (w.heap.size + 1) (by simp)).below h2 (by simp)).cell 0
    exact this
  have HC := Lib.hid (containsF_any (w.heap.size + 1) A1 C x.setN c1 m d w1.heap.size B x.setL ds w1 hcell (HD.out.below (H1.out.mono hB)) hm hr (Nat.le_trans hn1 hm1))
  clear h1 h2 hr hcell
  go_wp2_with (fail)
  refine HC.out.mono ?_
  rintro e w2 ⟨rfl, rfl⟩
  go_wp2
  go_ret
  exact ⟨ret_bool (missV_not x ds), H1.out⟩

theorem refMissing_any (x : Cf) (C : Option Addr) (m d B : Nat) (ds : List Int) (w : World) (hx : CfIn w B x) (hB : B ≤ w.heap.size) (hd : Reads w B 1 C m (ds.map (Value.int .i64))) (hm : m ≤ maxLen) :
    Calls Try.prog 21 #[x.agg, .slice C m d] w fun e w' => e = .returned (.bool (missV x ds)) ∧ Below w.heap.size w w' := by
  have HX := Lib.hid hx
  have HD := Lib.hid hd
  clear hx hd
  have R := fun w => refSettled_any x B w
  unfold missV
  generalize x.setL = zs at R ⊢
  generalize x.setN = n at R ⊢
  go_enter Try.func21, Try.ntmps21
  go_wp2_with (fail)
  refine (R _ (HX.out.alloc hB _) (by simp; omega)).mono ?_
  rintro e w1 ⟨A1, c1, rfl, hn1, hm1, hr, h2⟩
  have H1 := Lib.hid (box_below h2)
  have HR := Lib.hid hr
  have HD1 := Lib.hid (HD.out.below (H1.out.mono hB))
  have HL : Hid (zs.length = n) := Lib.hid (by have := hr.1; simpa using this)
  clear h2 hr R
  unfold maxLen at hm1
  go_wp2
  go_loop [6] (fun i => ∃ k : Nat, k ≤ n ∧ i = .int .i64 k ∧ Hid (∀ z ∈ zs.take k, z ∈ ds)) (fun i => n - (intOf i).toNat)
  case atStart => exact ⟨0, by omega, rfl, Lib.hid (by simp)⟩
  case round =>
    obtain ⟨k, hk, rfl, hno⟩ := hrel
    by_cases hlt : k < n
    · obtain ⟨ad, z, rfl, _, hz, hcell⟩ := reads_int HR.out hlt
      have HZ := Lib.hid hz
      clear hz
      have hlt' : (k : Int) < n := by omega
      by_cases hin : z ∈ ds
      · have hd1 : decide (z ∈ ds) = true := by simp [hin]
        have hs : Hid (∀ z ∈ zs.take (k + 1), z ∈ ds) := Lib.hid (by
          intro u hu
          rw [List.take_add_one, HZ.out, List.mem_append] at hu
          rcases hu with hu | hu
          · exact hno.out u hu
          · simp at hu; rw [hu]; exact hin)
        clear hin
        go_wp2_with (first | (go_at_call 27; refine (refHas_any C m d B ds z _ HD1.out hm).mono ?_; rintro e w' ⟨rfl, rfl⟩) | fail)
        go_round
        case rel => exact ⟨k + 1, by omega, by go_num, hs⟩
        case measure => simp [intOf]; omega
      · have hd1 : decide (z ∈ ds) = false := by simp [hin]
        have hs : Hid (false = decide (∀ z ∈ zs, z ∈ ds)) := Lib.hid (by
          symm; rw [decide_eq_false_iff_not]; exact fun h => hin (h z (List.mem_of_getElem? HZ.out)))
        clear hin
        go_wp2_with (first | (go_at_call 27; refine (refHas_any C m d B ds z _ HD1.out hm).mono ?_; rintro e w' ⟨rfl, rfl⟩) | fail)
        go_ret
        exact ⟨ret_bool hs.out, H1.out⟩
    · have hs : Hid (true = decide (∀ z ∈ zs, z ∈ ds)) := Lib.hid (by
        have := hno.out
        rw [List.take_of_length_le (by rw [HL.out]; omega)] at this
        symm; rw [decide_eq_true_eq]; exact this)
      go_wp2
      go_ret
      exact ⟨ret_bool hs.out, H1.out⟩
end Go.Proofs.Ythahcpanekdbaaa
