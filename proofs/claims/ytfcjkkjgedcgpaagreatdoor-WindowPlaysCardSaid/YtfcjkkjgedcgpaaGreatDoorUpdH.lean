/- Copy, Batch; the reference's Runs, Batch, Fits, SameUpdates. -/
import Derived.Test.YtfcjkkjgedcgpaaGreatDoorUpdF

namespace Go.Proofs.YtfcjkkjgedcgpaaGreatDoor
open Go.RowKit
set_option linter.unusedSimpArgs false
set_option linter.unusedVariables false
set_option maxHeartbeats 4000000
set_option maxRecDepth 100000
attribute [local go_sem] Up.agg Up.cells

theorem copyF_enter : ∀ (args : Array Value) (w : World), (callFunc 34 args).run Tryz.prog w = .ok (.enter 34 args) w :=
  enters_of Tryz.func34 (by kernel_rfl) rfl
theorem batchF_enter : ∀ (args : Array Value) (w : World), (callFunc 35 args).run Tryz.prog w = .ok (.enter 35 args) w :=
  enters_of Tryz.func35 (by kernel_rfl) rfl
theorem copyF_any (u : Up) (w : World) : Calls Tryz.prog 34 #[u.agg] w fun e w' => e = .returned (.bool true) ∧ Chg w w' (fun _ => False) := by
  go_enter Tryz.func34, Tryz.ntmps34
  go_wp2_with (fail)
  go_ret
  exact ⟨rfl, Chg.of_below ((Below.refl _ _).alloc (Nat.le_refl _) _) _⟩
theorem batchF_any (g : Nat) (u : Up) (a m : Int) (w : World) (hw : u.wf) (ha : Blk w g 25 #[.int .u64 a]) (hm : Blk w (g + 1) 3 #[.int .i64 m]) (hm0 : -9223372036854775808 ≤ m ∧ m ≤ 9223372036854775807) :
    Calls Tryz.prog 35 #[u.agg, .pointer (some ⟨g, 0, none⟩), .pointer (some ⟨g + 1, 0, none⟩)] w fun e w' => e = .returned (.bool (batchStep a m u).1) ∧ Blk w' g 25 #[.int .u64 a] ∧ Blk w' (g + 1) 3 #[.int .i64 (batchStep a m u).2] ∧ Chg w w' (fun k => k = g + 1) := by
  have c0 : w.cell? ⟨g, 0, none⟩ = some (.int .u64 a) := ha.cell 0
  have c1 : w.cell? ⟨g + 1, 0, none⟩ = some (.int .i64 m) := hm.cell 0
  have f1 := hm.frozen 0
  have hlt := hm.lt
  have hlt0 := ha.lt
  have HA := Lib.hid ha
  have HM := Lib.hid hm
  clear ha hm
  by_cases h0 : a < u.seq
  · have h0' : ¬ u.seq ≤ a := by omega
    by_cases h1 : 1 ≤ m
    · have hv : Hid (batchStep a m u = (true, m - 1)) := Lib.hid (by rw [batchStep, if_pos ⟨h0, h1⟩])
      rw [hv.out]
      have h2 : IntKind.i64.wrap (m - 1) = m - 1 := by rw [IntKind.wrap_i64]; omega
      have h1' : ¬ m < 1 := by omega
      clear h0 h1
      go_enter Tryz.func35, Tryz.ntmps35
      go_wp2_with (fail)
      go_ret
      refine ⟨rfl, ?_, ?_, ?_⟩
      · exact (HA.out.far (p := ⟨g + 1, 0, none⟩) (by simp) _).alloc _
      · exact (HM.out.set_ 0 _).alloc _
      · exact ⟨rfl, rfl, rfl, by simp [World.setCell], fun k hk hn => (Below.heap_alloc _ _ k (by simpa [World.setCell] using hk)).trans (Below.heap_setCell w _ _ k hn)⟩
    · have hv : Hid (batchStep a m u = (false, m)) := Lib.hid (by rw [batchStep, if_neg (fun h => h1 h.2)])
      rw [hv.out]
      have h1' : m < 1 := by omega
      clear h0 h1
      go_enter Tryz.func35, Tryz.ntmps35
      go_wp2_with (fail)
      go_ret
      exact ⟨rfl, HA.out.alloc _, HM.out.alloc _, Chg.of_below ((Below.refl _ _).alloc (Nat.le_refl _) _) _⟩
  · have hv : Hid (batchStep a m u = (false, m)) := Lib.hid (by rw [batchStep, if_neg (fun h => h0 h.1)])
    rw [hv.out]
    have h0' : u.seq ≤ a := by omega
    clear h0
    go_enter Tryz.func35, Tryz.ntmps35
    go_wp2_with (fail)
    go_ret
    exact ⟨rfl, HA.out.alloc _, HM.out.alloc _, Chg.of_below ((Below.refl _ _).alloc (Nat.le_refl _) _) _⟩

theorem copy_any (A : Option Addr) (n c B : Nat) (l : List Up) (w : World) (hl : UpsIn w B A n l) (hB : B ≤ w.heap.size) (hn : n ≤ 1000000) (hds : ∀ u ∈ l, u.n ≤ 1000000) :
    Calls Tryz.prog 25 #[.slice A n c] w fun e w' => ∃ v o, e = .returned v ∧ Picked w l v o w' := by
  have HL := Lib.hid hl
  clear hl
  go_enter Tryz.func25, Tryz.ntmps25
  go_wp2_with (fail)
  refine (pick_any copyStep 34 copyF_enter #[] (fun _ _ => True) (fun _ => False) () A n c B l w ?_ hB hn hds ?_ ?_ trivial ?_).mono ?_
  · intro W hc
    exact HL.out.below (hc.below hB (fun _ _ h => h))
  · intro k hk; exact hk.elim
  · intros; trivial
  · intro s u W _ hw
    exact (copyF_any u W).mono fun e W' ⟨h1, h2⟩ => ⟨h1, trivial, h2⟩
  rintro e w1 ⟨v, o, rfl, h⟩
  rw [copy_all] at h
  have H := Lib.hid (Picked.of h (Below.refl _ _) (fun k hk => hk.elim))
  clear h
  go_wp2
  go_ret
  exact ⟨_, _, rfl, H.out⟩

theorem batch_any (A : Option Addr) (n c B : Nat) (l : List Up) (a m : Int) (w : World) (hl : UpsIn w B A n l) (hB : B ≤ w.heap.size) (hn : n ≤ 1000000) (hds : ∀ u ∈ l, u.n ≤ 1000000) (hm0 : -9223372036854775808 ≤ m ∧ m ≤ 9223372036854775807) :
    Calls Tryz.prog 27 #[.slice A n c, .int .u64 a, .int .i64 m] w fun e w' => ∃ v o, e = .returned v ∧ Picked w (pickL (batchStep a) m l) v o w' := by
  have hmf : ∀ (fn : Fn) (first cap : Array Value) (w : World), (Instr.makeFunc fn first cap).run Tryz.prog w = .ok (.func fn first cap) w := fun _ _ _ _ => rfl
  have HL := Lib.hid hl
  clear hl
  have HB0 : Hid (Below w.heap.size w ((w.alloc (.cells #[.int .u64 a] 25)).alloc (.cells #[.int .i64 m] 3))) := Lib.hid (((Below.refl _ _).alloc (Nat.le_refl _) _).alloc (by simp) _)
  go_enter Tryz.func27, Tryz.ntmps27
  go_wp2_with (fail)
  refine (pick_any (batchStep a) 35 batchF_enter #[.pointer (some ⟨w.heap.size, 0, none⟩), .pointer (some ⟨w.heap.size + 1, 0, none⟩)]
    (fun s W => Blk W w.heap.size 25 #[.int .u64 a] ∧ Blk W (w.heap.size + 1) 3 #[.int .i64 s] ∧ (-9223372036854775808 ≤ s ∧ s ≤ 9223372036854775807)) (fun k => k = w.heap.size + 1) m A n c B l ((w.alloc (.cells #[.int .u64 a] 25)).alloc (.cells #[.int .i64 m] 3)) ?_ ?_ hn hds ?_ ?_ ?_ ?_).mono ?_
  · intro W hc
    exact HL.out.below ((HB0.out.trans (hc.below (by simp; omega) (fun k hk (e : k = w.heap.size + 1) => by omega))).mono hB)
  · simp; omega
  · intro k hk; simp at hk ⊢; omega
  · intro s W W' ⟨h1, h2, h3⟩ hbel; exact ⟨h1.below hbel (by simp; omega), h2.below hbel (by simp), h3⟩
  · exact ⟨(Blk.new _ _ _).alloc _, by have := Blk.new (w.alloc (.cells #[.int .u64 a] 25)) 3 #[.int .i64 m]; simpa using this, hm0⟩
  · intro s u W ⟨h1, h2, h3⟩ hw
    refine (batchF_any w.heap.size u a s W hw h1 h2 h3).mono ?_
    rintro e W' ⟨g1, g2, g3, g4⟩
    refine ⟨g1, ⟨g2, g3, ?_⟩, g4⟩
    unfold batchStep
    split
    · next hh => exact ⟨by show _ ≤ s - 1; omega, by show s - 1 ≤ _; omega⟩
    · exact h3
  rintro e w1 ⟨v, o, rfl, h⟩
  have H := Lib.hid (Picked.of h HB0.out (fun k hk => by omega))
  clear h
  go_wp2
  go_ret
  exact ⟨_, _, rfl, H.out⟩

theorem same_any (A C : Option Addr) (n m c d B D : Nat) (x y : List Int) (w : World) (hB : B ≤ w.heap.size) (hD : D ≤ w.heap.size) (hx : Reads w B 1 A n (x.map (Value.int .u8))) (hy : Reads w D 1 C m (y.map (Value.int .u8))) (hn : n ≤ 9223372036854775806) :
    Calls Tryz.prog 37 #[.slice A n c, .slice C m d] w fun e w' => e = .returned (.bool (decide (x = y))) ∧ Below w.heap.size w w' := by
  have lx : x.length = n := by have := hx.1; simpa using this
  have ly : y.length = m := by have := hy.1; simpa using this
  by_cases hnm : n = m
  · have hX : Hid (y.length = x.length) := Lib.hid (by omega)
    subst hnm
    have HX := Lib.hid hx
    have HY := Lib.hid hy
    have LX := Lib.hid lx
    have LY := Lib.hid ly
    clear hx hy lx ly
    go_enter Tryz.func37, Tryz.ntmps37
    go_wp2
    go_loopw [5] (fun i wr => ∃ k : Nat, k ≤ n ∧ i = .int .i64 k ∧ Hid (x.take k = y.take k) ∧ Hid (Below w.heap.size w wr)) (fun i _ => n - (intOf i).toNat)
    case atStart => exact ⟨0, by omega, rfl, Lib.hid rfl, Lib.hid (Below.refl _ _)⟩
    case round =>
      obtain ⟨k, hk, rfl, hT, hb⟩ := hrel
      by_cases hlt : k < n
      · obtain ⟨ad1, z1, rfl, _, hz1, hc1⟩ := reads_int (HX.out.below (hb.out.mono hB)) hlt
        obtain ⟨ad2, z2, rfl, _, hz2, hc2⟩ := reads_int (HY.out.below (hb.out.mono hD)) hlt
        have Z1 := Lib.hid hz1
        have Z2 := Lib.hid hz2
        clear hz1 hz2
        by_cases hz : z1 = z2
        · have hz' : (z1 != z2) = false := by simp [hz]
          have HZ := Lib.hid hz
          clear hz
          go_wp2_with (fail)
          go_quiet (fail)
          go_wp2
          go_roundw
          case rel =>
            refine ⟨k + 1, by omega, by go_num, Lib.hid ?_, Lib.hid (below_drewN hb.out _)⟩
            rw [List.take_add_one, List.take_add_one, Z1.out, Z2.out, hT.out, HZ.out]
          case measure => simp [intOf]; omega
        · have hz' : (z1 != z2) = true := by simp [hz]
          have HZ := Lib.hid hz
          clear hz
          go_wp2_with (fail)
          go_quiet (fail)
          go_wp2
          go_ret
          refine ⟨ret_bool ?_, below_drewN hb.out _⟩
          symm
          rw [decide_eq_false_iff_not]
          intro e
          have := Z2.out
          rw [← e, Z1.out] at this
          exact HZ.out (by injection this)
      · obtain rfl : k = n := by omega
        go_wp2
        go_ret
        refine ⟨ret_bool ?_, hb.out⟩
        symm
        rw [decide_eq_true_eq]
        have := hT.out
        rw [List.take_of_length_le (by have := LX.out; omega), List.take_of_length_le (by have := LY.out; omega)] at this
        exact this
  · have he : ¬ x = y := fun e => by subst e; omega
    have hd : decide (x = y) = false := by simp [he]
    rw [hd]
    have hnm' : ((n : Int) != m) = true := by simp; omega
    clear hx hy hnm he hd
    go_enter Tryz.func37, Tryz.ntmps37
    go_wp2
    go_ret
    exact ⟨rfl, Below.refl _ _⟩


end Go.Proofs.YtfcjkkjgedcgpaaGreatDoor
