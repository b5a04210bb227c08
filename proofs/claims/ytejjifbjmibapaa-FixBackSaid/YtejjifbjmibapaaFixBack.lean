/- The walk of FixBack. -/
import Derived.Test.YtejjifbjmibapaaFixT

namespace Go.Proofs.Ytejjifbjmibapaa
open Go.RowKit
set_option linter.unusedSimpArgs false
set_option linter.unusedVariables false
set_option maxHeartbeats 20000000
set_option maxRecDepth 100000
attribute [local go_sem] It.agg

theorem step_below {w wr w' : World} {v v' : Value} {s : FO} (ho : OutAt wr w.heap.size v s) (hb : Below w.heap.size w wr) (hs : OutStep wr w' w.heap.size v v') : Below w.heap.size w w' :=
  hb.trans (hs.2.below hb.size (fun j hj hx => by
    rcases hx with hx | hx
    · omega
    · have := (ho.2.1.lt j hx).1; omega))
theorem chg_below {w wr w' : World} {g : Nat} (hb : Below w.heap.size w wr) (hg : w.heap.size ≤ g) (hc : Chg wr w' (isG g)) : Below w.heap.size w w' :=
  hb.trans (hc.below hb.size (fun j hj (hx : j = g) => by omega))
theorem PutPost_eq (g : Nat) (v : Value) (s : FO) (r : List Int × Int) (w : World) : PutPost g v s r w = fun e w' => ∃ v' A c, e = .returned (.tuple #[.slice A r.1.length c, .int .i64 r.2]) ∧ OutAt w' g v' (s.add r) ∧ OutStep w w' g v v' ∧ Reads w' w'.heap.size 1 A r.1.length (r.1.map (Value.int .u8)) := rfl
theorem its_cells {w : World} {b o : Nat} {x : It} (h : ItCells w b o x) : w.cell? ⟨b, o, none⟩ = some (.int .i64 x.kd) ∧ w.cell? ⟨b, o + 1, none⟩ = some (.int .u64 x.n) ∧ w.cell? ⟨b, o + 2, none⟩ = some (.int .i64 x.wd) ∧ w.cell? ⟨b, o + 3, none⟩ = some (.slice x.A x.len x.cap) := h

theorem chg_relay {wr W w6 : World} {g : Nat} {p : Addr} {u : Value} (h : wr.cell? p = some u) (hp : p.block < wr.heap.size) (hb : Below wr.heap.size wr W) (hc : Chg W w6 (isG g)) (hne : p.block ≠ g) : w6.cell? p = some u :=
  (hc.cell (Nat.lt_of_lt_of_le hp hb.size) hne).trans ((hb.cell hp).trans h)
theorem chg_below2 {w wr W w6 : World} {g : Nat} (hB : Below w.heap.size w wr) (hb : Below wr.heap.size wr W) (hg : w.heap.size ≤ g) (hc : Chg W w6 (isG g)) : Below w.heap.size w w6 :=
  chg_below (hB.trans (hb.mono hB.size)) hg hc

theorem fixBack_law (A : Option Addr) (len c : Nat) (xs : Nat → It) (w : World) (hlen : len ≤ maxLen) (hit : RdIts w w.heap.size A len xs) (hwf : ∀ k, k < len → (xs k).wf w) :
    Calls Try.prog 5 #[.slice A len c] w fun e w' => e = .returned (.bool true) ∧ Below w.heap.size w w' := by
  unfold maxLen at hlen
  have HT := Lib.hid hit
  have HW := Lib.hid hwf
  clear hit hwf
  go_enter Try.func5, Try.ntmps5
  go_wp2_with (fail)
  refine (new_any 5000 (by decide) _).mono ?_
  rintro e w1 ⟨rfl, h1, h2⟩
  have HO1 := Lib.hid h1
  have HB1 := Lib.hid h2
  clear h1 h2
  go_wp2_with (fail)
  go_loopw [4, 5, 6, 7] (fun na ia _ _ wr => ∃ (k : Nat) (v : Value), k ≤ len ∧ k ≤ 30 ∧ ia = .int .i64 k ∧ na = .int .i64 k ∧ Hid (OutAt wr w.heap.size v ⟨catN xs k, 5000, 0⟩) ∧ Hid (Below w.heap.size w wr) ∧ Hid (∀ j, j < k → (xs j).ans.2 = 0)) (fun _ ia _ _ _ => 30 - (intOf ia).toNat)
  case atStart => exact ⟨0, _, by omega, by omega, rfl, rfl, HO1, HB1, Lib.hid (fun j hj => by omega)⟩
  case round =>
    clear HO1 HB1
    obtain ⟨k, v, hk, hk30, rfl, rfl, HO, HB, HE⟩ := hrel
    by_cases hlt : k < len ∧ k < 30
    · obtain ⟨hk1, hk2⟩ := hlt
      have hk1' : (k : Int) < len := by omega
      have hk2' : (k : Int) < 30 := by omega
      obtain ⟨b, off, rfl, hb, hcs⟩ := (HT.out.below HB.out) (by omega)
      obtain ⟨c0, c1, c2, c3⟩ := its_cells (hcs k hk1)
      have hbr : b < wr.heap.size := by have := HB.out.size; omega
      have hx := (HW.out k hk1).1.below HB.out
      have hxn := hx.hn
      have HX := Lib.hid hx
      have hal := (xs k).ans_len
      have hcl := catN_len xs k (fun j => (xs j).ans_len)
      clear hcs hx
      by_cases h0 : (xs k).kd = 0
      · have h0' : ((xs k).kd == 0) = true := by simp [h0]
        have hans : (xs k).ans = (xs k).num := by rw [It.ans, if_pos h0]
        go_wp2_with (fail)
        obtain HQ : Hid (∀ W, Below wr.heap.size wr W → OutAt W w.heap.size v ⟨catN xs k, 5000, 0⟩) := Lib.hid (fun W hW => HO.out.below hW)
        have hans2 : (xs k).num.2 = (xs k).ans.2 := by rw [hans]
        have HN := Lib.hid hans2
        clear hans hans2 h0
        go_region_held3 (fun w' => w'.cell? ⟨b, off + k * 4 + 1, none⟩ = some (.int .u64 (xs k).n) ∧ w'.cell? ⟨b, off + k * 4 + 2, none⟩ = some (.int .i64 (xs k).wd)) (go_keep) (first
          | (go_at_call 19; refine (refPut_any (xs k).n (xs k).wd (xs k) rfl rfl hxn _).mono ?_; rintro e w6 ⟨A6, c6, rfl, h1, h2⟩; replace c0 := cell_relay c0 hbr h2 (by repeat (first | with_reducible exact Below.refl _ _ | with_reducible refine Below.alloc ?_ (by simp <;> omega) _ | with_reducible refine below_drewN ?_ _ | with_reducible refine Below.drew ?_)); replace c1 := cell_relay c1 hbr h2 (by repeat (first | with_reducible exact Below.refl _ _ | with_reducible refine Below.alloc ?_ (by simp <;> omega) _ | with_reducible refine below_drewN ?_ _ | with_reducible refine Below.drew ?_)); replace c2 := cell_relay c2 hbr h2 (by repeat (first | with_reducible exact Below.refl _ _ | with_reducible refine Below.alloc ?_ (by simp <;> omega) _ | with_reducible refine below_drewN ?_ _ | with_reducible refine Below.drew ?_)); replace c3 := cell_relay c3 hbr h2 (by repeat (first | with_reducible exact Below.refl _ _ | with_reducible refine Below.alloc ?_ (by simp <;> omega) _ | with_reducible refine below_drewN ?_ _ | with_reducible refine Below.drew ?_)); have HS := Lib.hid (show Below wr.heap.size wr w6 from relay h2 (by repeat (first | with_reducible exact Below.refl _ _ | with_reducible refine Below.alloc ?_ (by simp <;> omega) _ | with_reducible refine below_drewN ?_ _ | with_reducible refine Below.drew ?_))); clear h1 h2)
          | fail)
        have HO6 := Lib.hid (HQ.out _ HS.out)
        have HB6 := Lib.hid (HB.out.trans (HS.out.mono HB.out.size))
        have HX6 := Lib.hid (HX.out.below (HS.out.mono HB.out.size))
        rw [HN.out]
        clear HO HB HX HQ HS
        by_cases he0 : (xs k).ans.2 = 0
        · have he' : ((xs k).ans.2 != 0) = false := by simp [he0]
          have HA := Lib.hid (add_cat xs k hk2 he0)
          have HE' : Hid (∀ j, j < k + 1 → (xs j).ans.2 = 0) := Lib.hid (fun j hj => by
            by_cases hjk : j = k
            · rw [hjk]; exact he0
            · exact HE.out j (by omega))
          have L := lawPut_any w.heap.size v ⟨catN xs k, 5000, 0⟩ (xs k) w.heap.size w6 HO6.out HX6.out (Nat.le_refl _) (by show (catN xs k).length ≤ _; omega)
          rw [PutPost_eq, HA.out] at L
          clear he0
          go_wp2_with (fail)
          refine L.mono ?_
          rintro e w3 ⟨v', A3, cc, rfl, h1, h2, h3⟩
          have HO3 := Lib.hid h1
          have HB3 := Lib.hid (step_below HO6.out HB6.out h2)
          clear L h1 h2 h3 c0 c1 c2 c3 hal hcl
          go_wp2_with (fail)
          go_roundw
          case rel => exact ⟨k + 1, v', by omega, by omega, by go_num, by go_num, HO3, HB3, HE'⟩
          case measure => simp [intOf]; omega
        · have he' : ((xs k).ans.2 != 0) = true := by simp [he0]
          have HO := HO6
          have HB := HB6
          clear HO6 HB6 HX6 he0 c0 c1 c2 c3 hbr hb hxn hal hcl
          have hcl := catN_len xs k (fun j => (xs j).ans_len)
          have D := done_any w.heap.size v ⟨catN xs k, 5000, 0⟩ w6 HO.out (by show (catN xs k).length ≤ _; omega)
          simp only [if_true] at D
          have HCB := Lib.hid (catN_bytes xs k (fun j hj => (HW.out j (by omega)).2.1))
          have HCL := Lib.hid hcl
          clear hcl
          go_wp2_with (fail)
          refine D.mono ?_
          rintro e w4 ⟨u, rfl, h1, h2⟩
          obtain ⟨A5, c5, rfl, h3, _, _⟩ := own_slice h1
          have H3 := Lib.hid h3
          have HB4 := Lib.hid (HB.out.trans (h2.mono HB.out.size))
          clear h1 h2 h3 D
          go_wp2_with (fail)
          refine (of_any A5 _ c5 w4.heap.size (catN xs k) _ (Nat.le_refl _) H3.out HCB.out (by have := HCL.out; omega)).mono ?_
          rintro e w5 ⟨gi, rfl, h1, h2, h3⟩
          have HI5 := Lib.hid h2
          have HB5 := Lib.hid (HB4.out.trans (h3.mono HB4.out.size))
          have hgi := Nat.le_trans HB4.out.size h1
          clear h1 h2 h3 H3 HB4 HB HO
          go_wp2_with (fail)
          go_loopw [11, 12] (fun ia _ wr => ∃ (j : Nat) (l : List Int), j ≤ k ∧ ia = .int .i64 j ∧ Hid (catN xs j ++ l = catN xs k) ∧ Hid (InAt wr gi w5.heap.size ⟨l, 0⟩) ∧ Hid (Below w.heap.size w wr)) (fun ia _ _ => k - (intOf ia).toNat)
          case atStart => exact ⟨0, _, by omega, rfl, Lib.hid rfl, HI5, HB5⟩
          case round =>
            clear HI5 HB5
            obtain ⟨j, l, hj, rfl, hcat, HI, HB⟩ := hrel
            by_cases hlt : j < k
            · have hjl : j < len := by omega
              have hjk' : (j : Int) < k := by omega
              have hjl' : (j : Int) < len := by omega
              obtain ⟨l', hl', hcat'⟩ := catN_step xs j k l hlt hcat.out
              have HC' := Lib.hid hcat'
              rw [hl'] at HI
              clear hcat hcat' hl'
              obtain ⟨b, off, hA, hb, hcs⟩ := (HT.out.below HB.out) (by omega)
              first | subst hA | (obtain ⟨rfl, rfl⟩ : _ = _ ∧ _ = _ := by simpa using hA)
              obtain ⟨c0, c1, c2, c3⟩ := its_cells (hcs j hjl)
              have hbr : b < wr.heap.size := by have := HB.out.size; omega
              have hbg : b ≠ gi := by omega
              have hx := (HW.out j hjl).1.below HB.out
              have hxc := hx.hc
              have hxm := hx.hm
              unfold maxLen at hxm
              have hxn := hx.hn
              have HCL2 := Lib.hid ((xs j).cut_len hx)
              have HCR := Lib.hid (cut_reads hx)
              have HE0 := Lib.hid (HE.out j hlt)
              have hlen2 : ((xs j).ans.1 ++ l').length ≤ 1000000000 := by
                have h1 := catN_len xs k (fun j => (xs j).ans_len)
                have h2 := congrArg List.length HC'.out
                rw [catN, List.length_append, List.length_append] at h2
                rw [List.length_append]; omega
              have HX := Lib.hid (cut_reads (HW.out j hjl).1)
              clear hcs hx
              clear HE
              generalize xs j = x at *
              by_cases h0 : x.kd = 0
              · have h0' : (x.kd == 0) = true := by simp [h0]
                have hup := upto_num x l' h0 HE0.out hxn
                have G := fun w h => get_any gi ⟨x.ans.1 ++ l', 0⟩ x.wd w5.heap.size w h
                rw [hup] at G
                clear h0 hup
                go_wp2_with (first | (go_at_call 13; refine (cut_any _ _ _ 60 hxc (by omega) _).mono ?_; rintro e w' ⟨rfl, rfl⟩) | fail)
                go_region_held3 (fun w' => w'.cell? ⟨b, off + j * 4 + 1, none⟩ = some (.int .u64 x.n) ∧ w'.cell? ⟨b, off + j * 4 + 2, none⟩ = some (.int .i64 x.wd)) (go_keep) (first
                  | (go_at_call 15; refine (G _ (HI.out.below (by repeat (first | with_reducible exact Below.refl _ _ | with_reducible refine Below.alloc ?_ (by simp <;> omega) _ | with_reducible refine below_drewN ?_ _ | with_reducible refine Below.drew ?_)))).mono ?_; rintro e w6 ⟨rfl, h1, h2⟩; replace c1 := chg_relay c1 hbr (by repeat (first | with_reducible exact Below.refl _ _ | with_reducible refine Below.alloc ?_ (by simp <;> omega) _ | with_reducible refine below_drewN ?_ _ | with_reducible refine Below.drew ?_)) h2 hbg; replace c2 := chg_relay c2 hbr (by repeat (first | with_reducible exact Below.refl _ _ | with_reducible refine Below.alloc ?_ (by simp <;> omega) _ | with_reducible refine below_drewN ?_ _ | with_reducible refine Below.drew ?_)) h2 hbg; have HI6 := Lib.hid h1; have HB6 := Lib.hid (chg_below2 HB.out (by repeat (first | with_reducible exact Below.refl _ _ | with_reducible refine Below.alloc ?_ (by simp <;> omega) _ | with_reducible refine below_drewN ?_ _ | with_reducible refine Below.drew ?_)) hgi h2); clear h1 h2)
                  | fail)
                go_wp2_with (fail)
                go_roundw
                case rel => exact ⟨j + 1, l', by omega, by go_num, HC', HI6, HB6⟩
                case measure => simp [intOf]; omega
              · have h0' : (x.kd == 0) = false := by simp [h0]
                by_cases h1k : x.kd = 1
                · have h1' : (x.kd == 1) = true := by simp [h1k]
                  have hans : x.ans = (x.cut, 0) := by rw [It.ans, if_neg h0, if_pos h1k]
                  rw [hans] at HI hlen2
                  have R := rawIn_any gi ⟨x.cut ++ l', 0⟩ (x.cut.length : Int) w5.heap.size wr HI.out (by have := HCL2.out; have := cutN_le2 x.len 60; omega) hlen2
                  rw [raw_cut, HCL2.out] at R
                  have HC60 := Lib.hid (cutN_le2 x.len 60)
                  clear h0 h1k hans
                  go_wp2_with (first | (go_at_call 13; refine (cut_any _ _ _ 60 hxc (by omega) _).mono ?_; rintro e w' ⟨rfl, rfl⟩) | fail)
                  refine R.mono ?_
                  rintro e w6 ⟨A6, c6, rfl, h1, h2, h3⟩
                  have HI6 := Lib.hid h1
                  have HB6 := Lib.hid (chg_below2 HB.out (Below.refl _ _) hgi h2)
                  have H3 := Lib.hid h3
                  have HCR6 := Lib.hid (HX.out.below HB6.out)
                  clear R h1 h2 h3 c0 c1 c2 c3
                  go_wp2_with (fail)
                  refine (same_any A6 x.A _ _ c6 x.cap w6.heap.size w.heap.size x.cut x.cut _ (Nat.le_refl _) HB6.out.size H3.out HCR6.out (by have := HC60.out; omega)).mono ?_
                  rintro e w7 ⟨rfl, h1⟩
                  have HI7 := Lib.hid (HI6.out.below (h1.mono HI6.out.le))
                  have HB7 := Lib.hid (HB6.out.trans (h1.mono HB6.out.size))
                  have hd : decide (x.cut = x.cut) = true := by simp
                  rw [hd]
                  clear h1 hd
                  go_wp2_with (fail)
                  go_roundw
                  case rel => exact ⟨j + 1, l', by omega, by go_num, HC', HI7, HB7⟩
                  case measure => simp [intOf]; omega
                · have h1' : (x.kd == 1) = false := by simp [h1k]
                  by_cases h2k : x.kd = 2
                  · have h2' : (x.kd == 2) = true := by simp [h2k]
                    have hans : x.ans = (big x.cut.length 2 ++ x.cut, 0) := by rw [It.ans, if_neg h0, if_neg h1k, if_pos h2k]
                    rw [hans] at HI hlen2
                    have R := textIn_any gi ⟨(big x.cut.length 2 ++ x.cut) ++ l', 0⟩ 60 w5.heap.size wr HI.out hlen2
                    rw [text_cut _ _ (by rw [HCL2.out]; exact cutN_le2 _ _), HCL2.out] at R
                    have HC60 := Lib.hid (cutN_le2 x.len 60)
                    clear h0 h1k h2k hans
                    go_wp2_with (first | (go_at_call 13; refine (cut_any _ _ _ 60 hxc (by omega) _).mono ?_; rintro e w' ⟨rfl, rfl⟩) | fail)
                    refine R.mono ?_
                    rintro e w6 ⟨A6, c6, rfl, h1, h2, h3⟩
                    have HI6 := Lib.hid h1
                    have HB6 := Lib.hid (chg_below2 HB.out (Below.refl _ _) hgi h2)
                    have H3 := Lib.hid h3
                    have HCR6 := Lib.hid (HX.out.below HB6.out)
                    clear R h1 h2 h3 c0 c1 c2 c3
                    go_wp2_with (fail)
                    refine (same_any A6 x.A _ _ c6 x.cap w6.heap.size w.heap.size x.cut x.cut _ (Nat.le_refl _) HB6.out.size H3.out HCR6.out (by have := HC60.out; omega)).mono ?_
                    rintro e w7 ⟨rfl, h1⟩
                    have HI7 := Lib.hid (HI6.out.below (h1.mono HI6.out.le))
                    have HB7 := Lib.hid (HB6.out.trans (h1.mono HB6.out.size))
                    have hd : decide (x.cut = x.cut) = true := by simp
                    rw [hd]
                    clear h1 hd
                    go_wp2_with (fail)
                    go_roundw
                    case rel => exact ⟨j + 1, l', by omega, by go_num, HC', HI7, HB7⟩
                    case measure => simp [intOf]; omega
                  · have h2' : (x.kd == 2) = false := by simp [h2k]
                    have hans : x.ans = ([((x.n % 2 : Nat) : Int)], 0) := by rw [It.ans, if_neg h0, if_neg h1k, if_neg h2k]
                    rw [hans] at HI
                    have G := fun w h => bool_any gi ⟨[((x.n % 2 : Nat) : Int)] ++ l', 0⟩ w5.heap.size w h
                    rw [bool_back] at G
                    clear h0 h1k h2k hans
                    rcases Nat.mod_two_eq_zero_or_one x.n with hp | hp
                    all_goals
                      have ep : (x.n : Int).tmod 2 = ((x.n % 2 : Nat) : Int) := by rw [Int.tmod_eq_emod_of_nonneg (by omega)]; rfl
                      rw [hp] at ep HI G
                      simp only [decide_true, Nat.zero_ne_one, decide_false] at G
                      clear hp
                      go_wp2_with (first | (go_at_call 13; refine (cut_any _ _ _ 60 hxc (by omega) _).mono ?_; rintro e w' ⟨rfl, rfl⟩) | fail)
                      go_region_held3 (fun w' => w'.cell? ⟨b, off + j * 4 + 1, none⟩ = some (.int .u64 x.n)) (go_keep) (first
                        | (go_at_call 22; refine (G _ (HI.out.below (by repeat (first | with_reducible exact Below.refl _ _ | with_reducible refine Below.alloc ?_ (by simp <;> omega) _ | with_reducible refine below_drewN ?_ _ | with_reducible refine Below.drew ?_)))).mono ?_; rintro e w6 ⟨rfl, h1, h2⟩; replace c1 := chg_relay c1 hbr (by repeat (first | with_reducible exact Below.refl _ _ | with_reducible refine Below.alloc ?_ (by simp <;> omega) _ | with_reducible refine below_drewN ?_ _ | with_reducible refine Below.drew ?_)) h2 hbg; have HI6 := Lib.hid h1; have HB6 := Lib.hid (chg_below2 HB.out (by repeat (first | with_reducible exact Below.refl _ _ | with_reducible refine Below.alloc ?_ (by simp <;> omega) _ | with_reducible refine below_drewN ?_ _ | with_reducible refine Below.drew ?_)) hgi h2); clear h1 h2)
                        | fail)
                      go_wp2_with (fail)
                      go_roundw
                      case rel => exact ⟨j + 1, l', by omega, by go_num, HC', HI6, HB6⟩
                      case measure => simp [intOf]; omega
            · obtain rfl : j = k := by omega
              have hl0 : l = [] := by
                have h1 := congrArg List.length hcat.out
                rw [List.length_append] at h1
                exact List.eq_nil_of_length_eq_zero (by omega)
              subst hl0
              have hd : (⟨[], 0⟩ : FI).done = 0 := rfl
              go_wp2_with (first | (go_at_call 23; refine (doneIn_any gi _ _ _ HI.out).mono ?_; rintro e w' ⟨rfl, rfl⟩) | fail)
              refine (awake_any _).mono ?_
              rintro e w6 ⟨rfl, h1⟩
              have H6 := Lib.hid (HB.out.trans (h1.mono HB.out.size))
              clear h1
              go_wp2
              go_ret
              exact ⟨rfl, H6.out⟩
      · have h0' : ((xs k).kd == 0) = false := by simp [h0]
        have he0 : (xs k).ans.2 = 0 := by
          rw [It.ans, if_neg h0]; split
          · rfl
          · split <;> rfl
        have HA := Lib.hid (add_cat xs k hk2 he0)
        have HE' : Hid (∀ j, j < k + 1 → (xs j).ans.2 = 0) := Lib.hid (fun j hj => by
          by_cases hjk : j = k
          · rw [hjk]; exact he0
          · exact HE.out j (by omega))
        have L := lawPut_any w.heap.size v ⟨catN xs k, 5000, 0⟩ (xs k) w.heap.size wr HO.out HX.out (Nat.le_refl _) (by show (catN xs k).length ≤ _; omega)
        rw [PutPost_eq, HA.out] at L
        clear h0 he0
        go_wp2_with (fail)
        refine L.mono ?_
        rintro e w3 ⟨v', A3, cc, rfl, h1, h2, h3⟩
        have HO3 := Lib.hid h1
        have HB3 := Lib.hid (step_below HO.out HB.out h2)
        clear L h1 h2 h3 c0 c1 c2 c3 hal hcl
        go_wp2_with (fail)
        go_roundw
        case rel => exact ⟨k + 1, v', by omega, by omega, by go_num, by go_num, HO3, HB3, HE'⟩
        case measure => simp [intOf]; omega
    · have hx : ¬ (k : Int) < len ∨ ((k : Int) < len ∧ ¬ (k : Int) < 30) := by omega
      clear hlt
      rcases hx with hx | ⟨hx0, hx⟩
      all_goals
        have hcl := catN_len xs k (fun j => (xs j).ans_len)
        have D := done_any w.heap.size v ⟨catN xs k, 5000, 0⟩ wr HO.out (by show (catN xs k).length ≤ _; omega)
        simp only [if_true] at D
        have HCB := Lib.hid (catN_bytes xs k (fun j hj => (HW.out j (by omega)).2.1))
        have HCL := Lib.hid hcl
        clear hcl
        go_wp2_with (fail)
        refine D.mono ?_
        rintro e w4 ⟨u, rfl, h1, h2⟩
        obtain ⟨A5, c5, rfl, h3, _, _⟩ := own_slice h1
        have H3 := Lib.hid h3
        have HB4 := Lib.hid (HB.out.trans (h2.mono HB.out.size))
        clear h1 h2 h3 D
        go_wp2_with (fail)
        refine (of_any A5 _ c5 w4.heap.size (catN xs k) _ (Nat.le_refl _) H3.out HCB.out (by have := HCL.out; omega)).mono ?_
        rintro e w5 ⟨gi, rfl, h1, h2, h3⟩
        have HI5 := Lib.hid h2
        have HB5 := Lib.hid (HB4.out.trans (h3.mono HB4.out.size))
        have hgi := Nat.le_trans HB4.out.size h1
        clear h1 h2 h3 H3 HB4 HB HO
        go_wp2_with (fail)
        go_loopw [11, 12] (fun ia _ wr => ∃ (j : Nat) (l : List Int), j ≤ k ∧ ia = .int .i64 j ∧ Hid (catN xs j ++ l = catN xs k) ∧ Hid (InAt wr gi w5.heap.size ⟨l, 0⟩) ∧ Hid (Below w.heap.size w wr)) (fun ia _ _ => k - (intOf ia).toNat)
        case atStart => exact ⟨0, _, by omega, rfl, Lib.hid rfl, HI5, HB5⟩
        case round =>
          clear HI5 HB5
          obtain ⟨j, l, hj, rfl, hcat, HI, HB⟩ := hrel
          by_cases hlt : j < k
          · have hjl : j < len := by omega
            have hjk' : (j : Int) < k := by omega
            have hjl' : (j : Int) < len := by omega
            obtain ⟨l', hl', hcat'⟩ := catN_step xs j k l hlt hcat.out
            have HC' := Lib.hid hcat'
            rw [hl'] at HI
            clear hcat hcat' hl'
            obtain ⟨b, off, hA, hb, hcs⟩ := (HT.out.below HB.out) (by omega)
            first | subst hA | (obtain ⟨rfl, rfl⟩ : _ = _ ∧ _ = _ := by simpa using hA)
            obtain ⟨c0, c1, c2, c3⟩ := its_cells (hcs j hjl)
            have hbr : b < wr.heap.size := by have := HB.out.size; omega
            have hbg : b ≠ gi := by omega
            have hx := (HW.out j hjl).1.below HB.out
            have hxc := hx.hc
            have hxm := hx.hm
            unfold maxLen at hxm
            have hxn := hx.hn
            have HCL2 := Lib.hid ((xs j).cut_len hx)
            have HCR := Lib.hid (cut_reads hx)
            have HE0 := Lib.hid (HE.out j hlt)
            have hlen2 : ((xs j).ans.1 ++ l').length ≤ 1000000000 := by
              have h1 := catN_len xs k (fun j => (xs j).ans_len)
              have h2 := congrArg List.length HC'.out
              rw [catN, List.length_append, List.length_append] at h2
              rw [List.length_append]; omega
            have HX := Lib.hid (cut_reads (HW.out j hjl).1)
            clear hcs hx
            clear HE
            generalize xs j = x at *
            by_cases h0 : x.kd = 0
            · have h0' : (x.kd == 0) = true := by simp [h0]
              have hup := upto_num x l' h0 HE0.out hxn
              have G := fun w h => get_any gi ⟨x.ans.1 ++ l', 0⟩ x.wd w5.heap.size w h
              rw [hup] at G
              clear h0 hup
              go_wp2_with (first | (go_at_call 13; refine (cut_any _ _ _ 60 hxc (by omega) _).mono ?_; rintro e w' ⟨rfl, rfl⟩) | fail)
              go_region_held3 (fun w' => w'.cell? ⟨b, off + j * 4 + 1, none⟩ = some (.int .u64 x.n) ∧ w'.cell? ⟨b, off + j * 4 + 2, none⟩ = some (.int .i64 x.wd)) (go_keep) (first
                | (go_at_call 15; refine (G _ (HI.out.below (by repeat (first | with_reducible exact Below.refl _ _ | with_reducible refine Below.alloc ?_ (by simp <;> omega) _ | with_reducible refine below_drewN ?_ _ | with_reducible refine Below.drew ?_)))).mono ?_; rintro e w6 ⟨rfl, h1, h2⟩; replace c1 := chg_relay c1 hbr (by repeat (first | with_reducible exact Below.refl _ _ | with_reducible refine Below.alloc ?_ (by simp <;> omega) _ | with_reducible refine below_drewN ?_ _ | with_reducible refine Below.drew ?_)) h2 hbg; replace c2 := chg_relay c2 hbr (by repeat (first | with_reducible exact Below.refl _ _ | with_reducible refine Below.alloc ?_ (by simp <;> omega) _ | with_reducible refine below_drewN ?_ _ | with_reducible refine Below.drew ?_)) h2 hbg; have HI6 := Lib.hid h1; have HB6 := Lib.hid (chg_below2 HB.out (by repeat (first | with_reducible exact Below.refl _ _ | with_reducible refine Below.alloc ?_ (by simp <;> omega) _ | with_reducible refine below_drewN ?_ _ | with_reducible refine Below.drew ?_)) hgi h2); clear h1 h2)
                | fail)
              go_wp2_with (fail)
              go_roundw
              case rel => exact ⟨j + 1, l', by omega, by go_num, HC', HI6, HB6⟩
              case measure => simp [intOf]; omega
            · have h0' : (x.kd == 0) = false := by simp [h0]
              by_cases h1k : x.kd = 1
              · have h1' : (x.kd == 1) = true := by simp [h1k]
                have hans : x.ans = (x.cut, 0) := by rw [It.ans, if_neg h0, if_pos h1k]
                rw [hans] at HI hlen2
                have R := rawIn_any gi ⟨x.cut ++ l', 0⟩ (x.cut.length : Int) w5.heap.size wr HI.out (by have := HCL2.out; have := cutN_le2 x.len 60; omega) hlen2
                rw [raw_cut, HCL2.out] at R
                have HC60 := Lib.hid (cutN_le2 x.len 60)
                clear h0 h1k hans
                go_wp2_with (first | (go_at_call 13; refine (cut_any _ _ _ 60 hxc (by omega) _).mono ?_; rintro e w' ⟨rfl, rfl⟩) | fail)
                refine R.mono ?_
                rintro e w6 ⟨A6, c6, rfl, h1, h2, h3⟩
                have HI6 := Lib.hid h1
                have HB6 := Lib.hid (chg_below2 HB.out (Below.refl _ _) hgi h2)
                have H3 := Lib.hid h3
                have HCR6 := Lib.hid (HX.out.below HB6.out)
                clear R h1 h2 h3 c0 c1 c2 c3
                go_wp2_with (fail)
                refine (same_any A6 x.A _ _ c6 x.cap w6.heap.size w.heap.size x.cut x.cut _ (Nat.le_refl _) HB6.out.size H3.out HCR6.out (by have := HC60.out; omega)).mono ?_
                rintro e w7 ⟨rfl, h1⟩
                have HI7 := Lib.hid (HI6.out.below (h1.mono HI6.out.le))
                have HB7 := Lib.hid (HB6.out.trans (h1.mono HB6.out.size))
                have hd : decide (x.cut = x.cut) = true := by simp
                rw [hd]
                clear h1 hd
                go_wp2_with (fail)
                go_roundw
                case rel => exact ⟨j + 1, l', by omega, by go_num, HC', HI7, HB7⟩
                case measure => simp [intOf]; omega
              · have h1' : (x.kd == 1) = false := by simp [h1k]
                by_cases h2k : x.kd = 2
                · have h2' : (x.kd == 2) = true := by simp [h2k]
                  have hans : x.ans = (big x.cut.length 2 ++ x.cut, 0) := by rw [It.ans, if_neg h0, if_neg h1k, if_pos h2k]
                  rw [hans] at HI hlen2
                  have R := textIn_any gi ⟨(big x.cut.length 2 ++ x.cut) ++ l', 0⟩ 60 w5.heap.size wr HI.out hlen2
                  rw [text_cut _ _ (by rw [HCL2.out]; exact cutN_le2 _ _), HCL2.out] at R
                  have HC60 := Lib.hid (cutN_le2 x.len 60)
                  clear h0 h1k h2k hans
                  go_wp2_with (first | (go_at_call 13; refine (cut_any _ _ _ 60 hxc (by omega) _).mono ?_; rintro e w' ⟨rfl, rfl⟩) | fail)
                  refine R.mono ?_
                  rintro e w6 ⟨A6, c6, rfl, h1, h2, h3⟩
                  have HI6 := Lib.hid h1
                  have HB6 := Lib.hid (chg_below2 HB.out (Below.refl _ _) hgi h2)
                  have H3 := Lib.hid h3
                  have HCR6 := Lib.hid (HX.out.below HB6.out)
                  clear R h1 h2 h3 c0 c1 c2 c3
                  go_wp2_with (fail)
                  refine (same_any A6 x.A _ _ c6 x.cap w6.heap.size w.heap.size x.cut x.cut _ (Nat.le_refl _) HB6.out.size H3.out HCR6.out (by have := HC60.out; omega)).mono ?_
                  rintro e w7 ⟨rfl, h1⟩
                  have HI7 := Lib.hid (HI6.out.below (h1.mono HI6.out.le))
                  have HB7 := Lib.hid (HB6.out.trans (h1.mono HB6.out.size))
                  have hd : decide (x.cut = x.cut) = true := by simp
                  rw [hd]
                  clear h1 hd
                  go_wp2_with (fail)
                  go_roundw
                  case rel => exact ⟨j + 1, l', by omega, by go_num, HC', HI7, HB7⟩
                  case measure => simp [intOf]; omega
                · have h2' : (x.kd == 2) = false := by simp [h2k]
                  have hans : x.ans = ([((x.n % 2 : Nat) : Int)], 0) := by rw [It.ans, if_neg h0, if_neg h1k, if_neg h2k]
                  rw [hans] at HI
                  have G := fun w h => bool_any gi ⟨[((x.n % 2 : Nat) : Int)] ++ l', 0⟩ w5.heap.size w h
                  rw [bool_back] at G
                  clear h0 h1k h2k hans
                  rcases Nat.mod_two_eq_zero_or_one x.n with hp | hp
                  all_goals
                    have ep : (x.n : Int).tmod 2 = ((x.n % 2 : Nat) : Int) := by rw [Int.tmod_eq_emod_of_nonneg (by omega)]; rfl
                    rw [hp] at ep HI G
                    simp only [decide_true, Nat.zero_ne_one, decide_false] at G
                    clear hp
                    go_wp2_with (first | (go_at_call 13; refine (cut_any _ _ _ 60 hxc (by omega) _).mono ?_; rintro e w' ⟨rfl, rfl⟩) | fail)
                    go_region_held3 (fun w' => w'.cell? ⟨b, off + j * 4 + 1, none⟩ = some (.int .u64 x.n)) (go_keep) (first
                      | (go_at_call 22; refine (G _ (HI.out.below (by repeat (first | with_reducible exact Below.refl _ _ | with_reducible refine Below.alloc ?_ (by simp <;> omega) _ | with_reducible refine below_drewN ?_ _ | with_reducible refine Below.drew ?_)))).mono ?_; rintro e w6 ⟨rfl, h1, h2⟩; replace c1 := chg_relay c1 hbr (by repeat (first | with_reducible exact Below.refl _ _ | with_reducible refine Below.alloc ?_ (by simp <;> omega) _ | with_reducible refine below_drewN ?_ _ | with_reducible refine Below.drew ?_)) h2 hbg; have HI6 := Lib.hid h1; have HB6 := Lib.hid (chg_below2 HB.out (by repeat (first | with_reducible exact Below.refl _ _ | with_reducible refine Below.alloc ?_ (by simp <;> omega) _ | with_reducible refine below_drewN ?_ _ | with_reducible refine Below.drew ?_)) hgi h2); clear h1 h2)
                      | fail)
                    go_wp2_with (fail)
                    go_roundw
                    case rel => exact ⟨j + 1, l', by omega, by go_num, HC', HI6, HB6⟩
                    case measure => simp [intOf]; omega
          · obtain rfl : j = k := by omega
            have hl0 : l = [] := by
              have h1 := congrArg List.length hcat.out
              rw [List.length_append] at h1
              exact List.eq_nil_of_length_eq_zero (by omega)
            subst hl0
            have hd : (⟨[], 0⟩ : FI).done = 0 := rfl
            go_wp2_with (first | (go_at_call 23; refine (doneIn_any gi _ _ _ HI.out).mono ?_; rintro e w' ⟨rfl, rfl⟩) | fail)
            refine (awake_any _).mono ?_
            rintro e w6 ⟨rfl, h1⟩
            have H6 := Lib.hid (HB.out.trans (h1.mono HB.out.size))
            clear h1
            go_wp2
            go_ret
            exact ⟨rfl, H6.out⟩
end Go.Proofs.Ytejjifbjmibapaa
