/- The walk of RoleReports. -/
import Derived.Test.YthahcpanekdbaaaRolM
import Derived.Laws.StructEq

namespace Go.Proofs.Ythahcpanekdbaaa
open Go.RowKit
set_option linter.unusedSimpArgs false
set_option linter.unusedVariables false
set_option maxHeartbeats 20000000
set_option maxRecDepth 100000
attribute [local go_sem] Cf.agg Cf.cells

theorem rd_relay {w1 W w' : World} {B n : Nat} {A : Option Addr} {xs : List Value} (h : Reads w1 B 1 A n xs) (hB : B ≤ w1.heap.size) (hb : Below W.heap.size W w') (h1 : Below w1.heap.size w1 W) : Reads w' B 1 A n xs :=
  h.below ((h1.mono hB).trans (hb.mono (Nat.le_trans hB h1.size)))
theorem rep_len (x : Cf) (n : Int) (ds : List Int) : (x.rep n ds).length ≤ 2 := by
  have h : ∀ k, (pick1 k ds).length ≤ 1 := fun k => by unfold pick1; split <;> simp
  unfold Cf.rep
  rw [List.length_append]
  have h1 := h (x.role n).pred
  have h2 := h (x.role n).succ
  omega





theorem roleReports_law (o x : Cf) (C : Option Addr) (m d : Nat) (ds : List Int) (w : World) (hx : CfIn w w.heap.size x) (hd : Reads w w.heap.size 1 C m (ds.map (Value.int .i64))) (hm : m ≤ maxLen) (hol : o.len ≤ maxLen) :
    Calls Try.prog 5 #[o.agg, x.agg, .slice C m d] w fun e w' => e = .returned (.bool true) ∧ Below w.heap.size w w' := by
  have hbig : ∀ (w0 : World), Below w.heap.size w w0 → Calls Try.prog 8 #[] w0 fun e w' => e = .returned (.bool true) ∧ Below w.heap.size w w' := fun w0 h0 => (awake_any w0).mono fun e w' hh => ⟨hh.1, h0.trans (hh.2.mono h0.size)⟩
  have HBIG := Lib.hid hbig
  clear hbig
  by_cases h1 : 30 < x.len
  · have hl : (30 : Int) < x.len := by omega
    go_enter Try.func5, Try.ntmps5
    go_wp2_with (fail)
    refine (HBIG.out _ (((Below.refl _ _).alloc (Nat.le_refl _) _).alloc (by simp) _)).mono ?_
    rintro e w1 ⟨rfl, h⟩
    have H := Lib.hid h
    clear h
    go_wp2
    go_ret
    exact ⟨rfl, H.out⟩
  have hl1 : (x.len : Int) ≤ 30 := by omega
  by_cases h2 : 30 < o.len
  · have hl : (30 : Int) < o.len := by omega
    go_enter Try.func5, Try.ntmps5
    go_wp2_with (fail)
    refine (HBIG.out _ (((Below.refl _ _).alloc (Nat.le_refl _) _).alloc (by simp) _)).mono ?_
    rintro e w1 ⟨rfl, h⟩
    have H := Lib.hid h
    clear h
    go_wp2
    go_ret
    exact ⟨rfl, H.out⟩
  have hl2 : (o.len : Int) ≤ 30 := by omega
  by_cases h3 : 40 < m
  · have hl : (40 : Int) < m := by omega
    go_enter Try.func5, Try.ntmps5
    go_wp2_with (fail)
    refine (HBIG.out _ (((Below.refl _ _).alloc (Nat.le_refl _) _).alloc (by simp) _)).mono ?_
    rintro e w1 ⟨rfl, h⟩
    have H := Lib.hid h
    clear h
    go_wp2
    go_ret
    exact ⟨rfl, H.out⟩
  have hl3 : (m : Int) ≤ 40 := by omega
  clear h1 h2 h3 HBIG
  obtain ⟨B, hBe⟩ : ∃ B, B = w.heap.size := ⟨_, rfl⟩
  have hB : B ≤ w.heap.size := by omega
  have HX : Hid (CfIn w B x) := Lib.hid (by rw [hBe]; exact hx)
  have HD : Hid (Reads w B 1 C m (ds.map (Value.int .i64))) := Lib.hid (by rw [hBe]; exact hd)
  clear hx hd hBe
  have HB0 : Hid (Below w.heap.size w ((w.alloc (.cells o.cells 25)).alloc (.cells x.cells 25))) := Lib.hid (((Below.refl _ _).alloc (Nat.le_refl _) _).alloc (by simp) _)
  have HBO0 : Hid (Blk ((w.alloc (.cells o.cells 25)).alloc (.cells x.cells 25)) w.heap.size 25 o.cells) := Lib.hid ((Blk.new _ _ _).alloc _)
  have HBX0 : Hid (Blk ((w.alloc (.cells o.cells 25)).alloc (.cells x.cells 25)) (w.heap.size + 1) 25 x.cells) := Lib.hid (blk_new_at _ _ _ _ (by simp))
  go_enter Try.func5, Try.ntmps5
  go_wp2
  go_loopw [7, 8, 9, 10] (fun na _ _ _ wr => ∃ (k : Nat), k ≤ 26 ∧ na = .int .i64 k ∧ Hid (Below w.heap.size w wr) ∧ Hid (Blk wr w.heap.size 25 o.cells) ∧ Hid (Blk wr (w.heap.size + 1) 25 x.cells)) (fun na _ _ _ _ => 40 - (intOf na).toNat)
  case atStart => exact ⟨0, by omega, rfl, HB0, HBO0, HBX0⟩
  case round =>
    clear HB0 HBO0 HBX0
    obtain ⟨k, hk, rfl, HB, HBO, HBX⟩ := hrel
    have HX1 := Lib.hid (HX.out.below (HB.out.mono hB))
    have HD1 := Lib.hid (HD.out.below (HB.out.mono hB))
    have hBw := Nat.le_trans hB HB.out.size
    obtain ⟨d0, d1, d2, d3, d4⟩ := cf_cells (x := o) HBO.out; obtain ⟨c0, c1, c2, c3, c4⟩ := cf_cells (x := x) HBX.out; have q5 := HBO.out.lt; have q6 := HBX.out.lt
    by_cases hlt : k < 26
    · have hk1 : (k : Int) ≤ 25 := by omega
      have R1 := fun W => reports_any x k C m d B ds W
      have R2 := fun W => refReports_any x k C m d B ds W
      have hL := rep_len x k ds
      generalize x.rep k ds = L at R1 R2 hL
      clear hlt
      go_wp2_with (fail)
      refine (R1 _ HX1.out hBw HD1.out hm).mono ?_
      rintro e w2 ⟨v, rfl, g1, h⟩
      obtain ⟨A5, n5, rfl, hr5, _, _⟩ := own_slice g1
      have HR5 := Lib.hid hr5
      have hw2 : w2.heap.size ≤ w2.heap.size := Nat.le_refl _
      replace HB := Lib.hid (below_relay HB.out q5 h (by repeat (first | with_reducible exact Below.refl _ _ | with_reducible refine Below.alloc ?_ (by simp <;> omega) _ | with_reducible refine below_drewN ?_ _ | with_reducible refine Below.drew ?_))); replace HX1 := Lib.hid (cf_relay HX1.out hBw h (by repeat (first | with_reducible exact Below.refl _ _ | with_reducible refine Below.alloc ?_ (by simp <;> omega) _ | with_reducible refine below_drewN ?_ _ | with_reducible refine Below.drew ?_))); replace HD1 := Lib.hid (rd_relay HD1.out hBw h (by repeat (first | with_reducible exact Below.refl _ _ | with_reducible refine Below.alloc ?_ (by simp <;> omega) _ | with_reducible refine below_drewN ?_ _ | with_reducible refine Below.drew ?_))); replace HBO := Lib.hid (blk_relay HBO.out h (by repeat (first | with_reducible exact Below.refl _ _ | with_reducible refine Below.alloc ?_ (by simp <;> omega) _ | with_reducible refine below_drewN ?_ _ | with_reducible refine Below.drew ?_))); replace HBX := Lib.hid (blk_relay HBX.out h (by repeat (first | with_reducible exact Below.refl _ _ | with_reducible refine Below.alloc ?_ (by simp <;> omega) _ | with_reducible refine below_drewN ?_ _ | with_reducible refine Below.drew ?_))); replace hBw := le_relay hBw h (by repeat (first | with_reducible exact Below.refl _ _ | with_reducible refine Below.alloc ?_ (by simp <;> omega) _ | with_reducible refine below_drewN ?_ _ | with_reducible refine Below.drew ?_)); clear d0 d1 d2 d3 d4 c0 c1 c2 c3 c4 q5 q6; obtain ⟨d0, d1, d2, d3, d4⟩ := cf_cells (x := o) HBO.out; obtain ⟨c0, c1, c2, c3, c4⟩ := cf_cells (x := x) HBX.out; have q5 := HBO.out.lt; have q6 := HBX.out.lt; clear h
      clear g1 hr5
      go_wp2_with (fail)
      refine (R2 _ HX1.out hBw HD1.out hm).mono ?_
      rintro e w6 ⟨v, rfl, g1, h⟩
      obtain ⟨A6, n6, rfl, hr6, _, _⟩ := own_slice g1
      have HR6 := Lib.hid hr6
      replace HR5 := Lib.hid (HR5.out.below h)
      have hs26 := h.size
      replace HB := Lib.hid (below_relay HB.out q5 h (by repeat (first | with_reducible exact Below.refl _ _ | with_reducible refine Below.alloc ?_ (by simp <;> omega) _ | with_reducible refine below_drewN ?_ _ | with_reducible refine Below.drew ?_))); replace HX1 := Lib.hid (cf_relay HX1.out hBw h (by repeat (first | with_reducible exact Below.refl _ _ | with_reducible refine Below.alloc ?_ (by simp <;> omega) _ | with_reducible refine below_drewN ?_ _ | with_reducible refine Below.drew ?_))); replace HD1 := Lib.hid (rd_relay HD1.out hBw h (by repeat (first | with_reducible exact Below.refl _ _ | with_reducible refine Below.alloc ?_ (by simp <;> omega) _ | with_reducible refine below_drewN ?_ _ | with_reducible refine Below.drew ?_))); replace HBO := Lib.hid (blk_relay HBO.out h (by repeat (first | with_reducible exact Below.refl _ _ | with_reducible refine Below.alloc ?_ (by simp <;> omega) _ | with_reducible refine below_drewN ?_ _ | with_reducible refine Below.drew ?_))); replace HBX := Lib.hid (blk_relay HBX.out h (by repeat (first | with_reducible exact Below.refl _ _ | with_reducible refine Below.alloc ?_ (by simp <;> omega) _ | with_reducible refine below_drewN ?_ _ | with_reducible refine Below.drew ?_))); replace hBw := le_relay hBw h (by repeat (first | with_reducible exact Below.refl _ _ | with_reducible refine Below.alloc ?_ (by simp <;> omega) _ | with_reducible refine below_drewN ?_ _ | with_reducible refine Below.drew ?_)); clear d0 d1 d2 d3 d4 c0 c1 c2 c3 c4 q5 q6; obtain ⟨d0, d1, d2, d3, d4⟩ := cf_cells (x := o) HBO.out; obtain ⟨c0, c1, c2, c3, c4⟩ := cf_cells (x := x) HBX.out; have q5 := HBO.out.lt; have q6 := HBX.out.lt; clear h
      clear g1 hr6 R1 R2
      go_wp2_with (fail)
      go_loopw [10] (fun ia wr => ∃ (j n : Nat), j ≤ L.length ∧ ia = .int .i64 j ∧ wr = w6.drewN n) (fun ia _ => L.length - (intOf ia).toNat)
      case atStart => exact ⟨0, 0, by omega, rfl, rfl⟩
      case round =>
        obtain ⟨j, n, hj, rfl, rfl⟩ := hrel
        by_cases hlt : j < L.length
        · have hj' : (j : Int) < L.length := by omega
          obtain ⟨b5, o5, a5, rfl, hb5, ha5, hc5⟩ := reads_at x.row x.row_len (by omega) HR5.out hlt
          obtain ⟨b6, o6, a6, rfl, hb6, ha6, hc6⟩ := reads_at x.row x.row_len (by omega) HR6.out hlt
          obtain rfl : a5 = a6 := by rw [ha5] at ha6; injection ha6
          have p0 := hc5 0 _ rfl
          have p1 := hc5 1 _ rfl
          have p2 := hc5 2 _ rfl
          have p3 := hc5 3 _ rfl
          have r0 := hc6 0 _ rfl
          have r1 := hc6 1 _ rfl
          have r2 := hc6 2 _ rfl
          have r3 := hc6 3 _ rfl
          rw [Nat.add_zero] at p0 r0
          clear hc5 hc6 ha5 ha6
          go_wp2_with (fail)
          go_quiet (fail)
          go_wp2
          go_roundw
          case rel => first | exact ⟨j + 1, _, by omega, by go_num, rfl⟩ | ((repeat apply Exists.intro); exact ⟨⟨j + 1, _, by omega, by go_num, rfl⟩, rfl⟩)
          case measure => simp [intOf]; omega
        · obtain rfl : j = L.length := by omega
          go_wp2
          go_roundw
          case rel => first | exact ⟨k + 1, by omega, by go_num, Lib.hid (below_drewN HB.out _), Lib.hid (HBO.out.drewN _), Lib.hid (HBX.out.drewN _)⟩ | ((repeat apply Exists.intro); exact ⟨⟨k + 1, by omega, by go_num, Lib.hid (below_drewN HB.out _), Lib.hid (HBO.out.drewN _), Lib.hid (HBX.out.drewN _)⟩, rfl⟩)
          case measure => simp [intOf]; omega
    · obtain rfl : k = 26 := by omega
      clear hlt hk
      go_wp2_with (fail)
      go_region_held3 (fun w' => w'.cell? ⟨w.heap.size, 0, none⟩ = some (.int .i64 o.ch) ∧ w'.cell? ⟨w.heap.size, 1, none⟩ = some (.int .u64 o.ep) ∧ w'.cell? ⟨w.heap.size, 2, none⟩ = some (.slice o.A o.len o.cap) ∧ w'.cell? ⟨w.heap.size, 3, none⟩ = some (.bool o.fr) ∧ w'.cell? ⟨w.heap.size, 4, none⟩ = some (.int .i64 o.jn) ∧ w'.cell? ⟨w.heap.size + 1, 0, none⟩ = some (.int .i64 x.ch) ∧ w'.cell? ⟨w.heap.size + 1, 1, none⟩ = some (.int .u64 x.ep) ∧ w'.cell? ⟨w.heap.size + 1, 2, none⟩ = some (.slice x.A x.len x.cap) ∧ w'.cell? ⟨w.heap.size + 1, 3, none⟩ = some (.bool x.fr) ∧ w'.cell? ⟨w.heap.size + 1, 4, none⟩ = some (.int .i64 x.jn)) (go_keep) (first | (go_at_call 18; refine (newer_any o x B _ ?_ ?_).mono ?_; (· repeat (first | with_reducible refine CfIn.alloc ?_ (by first | omega | (simp; omega)) _ | with_reducible refine CfIn.drewN ?_ _ | with_reducible refine CfIn.drew ?_ | with_reducible exact HX1.out)); (· first | omega | (simp; omega)); rintro e w6 ⟨rfl, h⟩; replace HB := Lib.hid (below_relay HB.out q5 h (by repeat (first | with_reducible exact Below.refl _ _ | with_reducible refine Below.alloc ?_ (by simp <;> omega) _ | with_reducible refine below_drewN ?_ _ | with_reducible refine Below.drew ?_))); replace HX1 := Lib.hid (cf_relay HX1.out hBw h (by repeat (first | with_reducible exact Below.refl _ _ | with_reducible refine Below.alloc ?_ (by simp <;> omega) _ | with_reducible refine below_drewN ?_ _ | with_reducible refine Below.drew ?_))); replace HD1 := Lib.hid (rd_relay HD1.out hBw h (by repeat (first | with_reducible exact Below.refl _ _ | with_reducible refine Below.alloc ?_ (by simp <;> omega) _ | with_reducible refine below_drewN ?_ _ | with_reducible refine Below.drew ?_))); replace HBO := Lib.hid (blk_relay HBO.out h (by repeat (first | with_reducible exact Below.refl _ _ | with_reducible refine Below.alloc ?_ (by simp <;> omega) _ | with_reducible refine below_drewN ?_ _ | with_reducible refine Below.drew ?_))); replace HBX := Lib.hid (blk_relay HBX.out h (by repeat (first | with_reducible exact Below.refl _ _ | with_reducible refine Below.alloc ?_ (by simp <;> omega) _ | with_reducible refine below_drewN ?_ _ | with_reducible refine Below.drew ?_))); replace hBw := le_relay hBw h (by repeat (first | with_reducible exact Below.refl _ _ | with_reducible refine Below.alloc ?_ (by simp <;> omega) _ | with_reducible refine below_drewN ?_ _ | with_reducible refine Below.drew ?_)); clear d0 d1 d2 d3 d4 c0 c1 c2 c3 c4 q5 q6; obtain ⟨d0, d1, d2, d3, d4⟩ := cf_cells (x := o) HBO.out; obtain ⟨c0, c1, c2, c3, c4⟩ := cf_cells (x := x) HBX.out; have q5 := HBO.out.lt; have q6 := HBX.out.lt; clear h) | (go_at_call 19; refine (refNewer_any o x B _ ?_ ?_).mono ?_; (· repeat (first | with_reducible refine CfIn.alloc ?_ (by first | omega | (simp; omega)) _ | with_reducible refine CfIn.drewN ?_ _ | with_reducible refine CfIn.drew ?_ | with_reducible exact HX1.out)); (· first | omega | (simp; omega)); rintro e w6 ⟨rfl, h⟩; replace HB := Lib.hid (below_relay HB.out q5 h (by repeat (first | with_reducible exact Below.refl _ _ | with_reducible refine Below.alloc ?_ (by simp <;> omega) _ | with_reducible refine below_drewN ?_ _ | with_reducible refine Below.drew ?_))); replace HX1 := Lib.hid (cf_relay HX1.out hBw h (by repeat (first | with_reducible exact Below.refl _ _ | with_reducible refine Below.alloc ?_ (by simp <;> omega) _ | with_reducible refine below_drewN ?_ _ | with_reducible refine Below.drew ?_))); replace HD1 := Lib.hid (rd_relay HD1.out hBw h (by repeat (first | with_reducible exact Below.refl _ _ | with_reducible refine Below.alloc ?_ (by simp <;> omega) _ | with_reducible refine below_drewN ?_ _ | with_reducible refine Below.drew ?_))); replace HBO := Lib.hid (blk_relay HBO.out h (by repeat (first | with_reducible exact Below.refl _ _ | with_reducible refine Below.alloc ?_ (by simp <;> omega) _ | with_reducible refine below_drewN ?_ _ | with_reducible refine Below.drew ?_))); replace HBX := Lib.hid (blk_relay HBX.out h (by repeat (first | with_reducible exact Below.refl _ _ | with_reducible refine Below.alloc ?_ (by simp <;> omega) _ | with_reducible refine below_drewN ?_ _ | with_reducible refine Below.drew ?_))); replace hBw := le_relay hBw h (by repeat (first | with_reducible exact Below.refl _ _ | with_reducible refine Below.alloc ?_ (by simp <;> omega) _ | with_reducible refine below_drewN ?_ _ | with_reducible refine Below.drew ?_)); clear d0 d1 d2 d3 d4 c0 c1 c2 c3 c4 q5 q6; obtain ⟨d0, d1, d2, d3, d4⟩ := cf_cells (x := o) HBO.out; obtain ⟨c0, c1, c2, c3, c4⟩ := cf_cells (x := x) HBX.out; have q5 := HBO.out.lt; have q6 := HBX.out.lt; clear h) | (go_at_call 20; refine (missing_any x C m d B ds _ ?_ ?_ ?_ hm).mono ?_; (· repeat (first | with_reducible refine CfIn.alloc ?_ (by first | omega | (simp; omega)) _ | with_reducible refine CfIn.drewN ?_ _ | with_reducible refine CfIn.drew ?_ | with_reducible exact HX1.out)); (· first | omega | (simp; omega)); (· repeat (first | with_reducible refine Reads.alloc ?_ (by first | omega | (simp; omega)) _ | with_reducible refine Reads.drewN ?_ _ | with_reducible refine Reads.drew ?_ | with_reducible exact HD1.out)); rintro e w6 ⟨rfl, h⟩; replace HB := Lib.hid (below_relay HB.out q5 h (by repeat (first | with_reducible exact Below.refl _ _ | with_reducible refine Below.alloc ?_ (by simp <;> omega) _ | with_reducible refine below_drewN ?_ _ | with_reducible refine Below.drew ?_))); replace HX1 := Lib.hid (cf_relay HX1.out hBw h (by repeat (first | with_reducible exact Below.refl _ _ | with_reducible refine Below.alloc ?_ (by simp <;> omega) _ | with_reducible refine below_drewN ?_ _ | with_reducible refine Below.drew ?_))); replace HD1 := Lib.hid (rd_relay HD1.out hBw h (by repeat (first | with_reducible exact Below.refl _ _ | with_reducible refine Below.alloc ?_ (by simp <;> omega) _ | with_reducible refine below_drewN ?_ _ | with_reducible refine Below.drew ?_))); replace HBO := Lib.hid (blk_relay HBO.out h (by repeat (first | with_reducible exact Below.refl _ _ | with_reducible refine Below.alloc ?_ (by simp <;> omega) _ | with_reducible refine below_drewN ?_ _ | with_reducible refine Below.drew ?_))); replace HBX := Lib.hid (blk_relay HBX.out h (by repeat (first | with_reducible exact Below.refl _ _ | with_reducible refine Below.alloc ?_ (by simp <;> omega) _ | with_reducible refine below_drewN ?_ _ | with_reducible refine Below.drew ?_))); replace hBw := le_relay hBw h (by repeat (first | with_reducible exact Below.refl _ _ | with_reducible refine Below.alloc ?_ (by simp <;> omega) _ | with_reducible refine below_drewN ?_ _ | with_reducible refine Below.drew ?_)); clear d0 d1 d2 d3 d4 c0 c1 c2 c3 c4 q5 q6; obtain ⟨d0, d1, d2, d3, d4⟩ := cf_cells (x := o) HBO.out; obtain ⟨c0, c1, c2, c3, c4⟩ := cf_cells (x := x) HBX.out; have q5 := HBO.out.lt; have q6 := HBX.out.lt; clear h) | (go_at_call 21; refine (refMissing_any x C m d B ds _ ?_ ?_ ?_ hm).mono ?_; (· repeat (first | with_reducible refine CfIn.alloc ?_ (by first | omega | (simp; omega)) _ | with_reducible refine CfIn.drewN ?_ _ | with_reducible refine CfIn.drew ?_ | with_reducible exact HX1.out)); (· first | omega | (simp; omega)); (· repeat (first | with_reducible refine Reads.alloc ?_ (by first | omega | (simp; omega)) _ | with_reducible refine Reads.drewN ?_ _ | with_reducible refine Reads.drew ?_ | with_reducible exact HD1.out)); rintro e w6 ⟨rfl, h⟩; replace HB := Lib.hid (below_relay HB.out q5 h (by repeat (first | with_reducible exact Below.refl _ _ | with_reducible refine Below.alloc ?_ (by simp <;> omega) _ | with_reducible refine below_drewN ?_ _ | with_reducible refine Below.drew ?_))); replace HX1 := Lib.hid (cf_relay HX1.out hBw h (by repeat (first | with_reducible exact Below.refl _ _ | with_reducible refine Below.alloc ?_ (by simp <;> omega) _ | with_reducible refine below_drewN ?_ _ | with_reducible refine Below.drew ?_))); replace HD1 := Lib.hid (rd_relay HD1.out hBw h (by repeat (first | with_reducible exact Below.refl _ _ | with_reducible refine Below.alloc ?_ (by simp <;> omega) _ | with_reducible refine below_drewN ?_ _ | with_reducible refine Below.drew ?_))); replace HBO := Lib.hid (blk_relay HBO.out h (by repeat (first | with_reducible exact Below.refl _ _ | with_reducible refine Below.alloc ?_ (by simp <;> omega) _ | with_reducible refine below_drewN ?_ _ | with_reducible refine Below.drew ?_))); replace HBX := Lib.hid (blk_relay HBX.out h (by repeat (first | with_reducible exact Below.refl _ _ | with_reducible refine Below.alloc ?_ (by simp <;> omega) _ | with_reducible refine below_drewN ?_ _ | with_reducible refine Below.drew ?_))); replace hBw := le_relay hBw h (by repeat (first | with_reducible exact Below.refl _ _ | with_reducible refine Below.alloc ?_ (by simp <;> omega) _ | with_reducible refine below_drewN ?_ _ | with_reducible refine Below.drew ?_)); clear d0 d1 d2 d3 d4 c0 c1 c2 c3 c4 q5 q6; obtain ⟨d0, d1, d2, d3, d4⟩ := cf_cells (x := o) HBO.out; obtain ⟨c0, c1, c2, c3, c4⟩ := cf_cells (x := x) HBX.out; have q5 := HBO.out.lt; have q6 := HBX.out.lt; clear h) | (go_at_call 8; refine (awake_any _).mono ?_;  rintro e w6 ⟨rfl, h⟩; replace HB := Lib.hid (below_relay HB.out q5 h (by repeat (first | with_reducible exact Below.refl _ _ | with_reducible refine Below.alloc ?_ (by simp <;> omega) _ | with_reducible refine below_drewN ?_ _ | with_reducible refine Below.drew ?_))); replace HX1 := Lib.hid (cf_relay HX1.out hBw h (by repeat (first | with_reducible exact Below.refl _ _ | with_reducible refine Below.alloc ?_ (by simp <;> omega) _ | with_reducible refine below_drewN ?_ _ | with_reducible refine Below.drew ?_))); replace HD1 := Lib.hid (rd_relay HD1.out hBw h (by repeat (first | with_reducible exact Below.refl _ _ | with_reducible refine Below.alloc ?_ (by simp <;> omega) _ | with_reducible refine below_drewN ?_ _ | with_reducible refine Below.drew ?_))); replace HBO := Lib.hid (blk_relay HBO.out h (by repeat (first | with_reducible exact Below.refl _ _ | with_reducible refine Below.alloc ?_ (by simp <;> omega) _ | with_reducible refine below_drewN ?_ _ | with_reducible refine Below.drew ?_))); replace HBX := Lib.hid (blk_relay HBX.out h (by repeat (first | with_reducible exact Below.refl _ _ | with_reducible refine Below.alloc ?_ (by simp <;> omega) _ | with_reducible refine below_drewN ?_ _ | with_reducible refine Below.drew ?_))); replace hBw := le_relay hBw h (by repeat (first | with_reducible exact Below.refl _ _ | with_reducible refine Below.alloc ?_ (by simp <;> omega) _ | with_reducible refine below_drewN ?_ _ | with_reducible refine Below.drew ?_)); clear d0 d1 d2 d3 d4 c0 c1 c2 c3 c4 q5 q6; obtain ⟨d0, d1, d2, d3, d4⟩ := cf_cells (x := o) HBO.out; obtain ⟨c0, c1, c2, c3, c4⟩ := cf_cells (x := x) HBX.out; have q5 := HBO.out.lt; have q6 := HBX.out.lt; clear h) | fail)
      all_goals
        go_wp2
        go_ret
        exact ⟨rfl, HB.out⟩
end Go.Proofs.Ythahcpanekdbaaa
