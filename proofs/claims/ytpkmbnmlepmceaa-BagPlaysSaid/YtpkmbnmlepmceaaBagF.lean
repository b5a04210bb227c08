/- The walk of BagGoes. -/
import Derived.Test.YtpkmbnmlepmceaaBagE

namespace Go.Proofs.Ytpkmbnmlepmceaa
open Go.RowKit Go.Shelf
attribute [local go_sem] Oper.semAt_some
set_option linter.unusedSimpArgs false
set_option linter.unusedVariables false
set_option maxHeartbeats 8000000
set_option maxRecDepth 100000

theorem BKp.setCell {n₁ : Nat} {p q : Addr} (W : World) (x : Value) (hq : q.block < n₁) (hne : q.block ≠ p.block) : BKp n₁ p W (W.setCell q x) := by
  have hrow : rowOf (W.setCell q x) p = rowOf W p := by
    unfold rowOf
    rw [World.cell?_setCell_other _ _ _ _ (fun e => hne (by rw [e]))]
  exact ⟨by simp [World.setCell], fun k o hk ho _ _ => (Below.heap_setCell _ _ _ k (by omega)).trans ho, fun k hk => .inl (by rw [← hrow]; exact hk)⟩
theorem GM.seti {w W : World} {lB sB rB g pB n c iB : Nat} {A : Option Addr} {st : Int} {v : Value} {s : Bg} {cs : Array Value} (h : GM w lB sB rB g pB A n c st v s W) (hi : Blk W iB 3 cs) (hw : w.heap.size ≤ iB) (x : Value) : GM w lB sB rB g pB A n c st v s (W.setCell ⟨iB, 0, none⟩ x) :=
  ⟨h.lbx.far (p := ⟨iB, 0, none⟩) (Blk.ne_ h.lbx hi (by decide)) _, h.sbx.far (p := ⟨iB, 0, none⟩) (Blk.ne_ h.sbx hi (by decide)) _, h.rbx.far (p := ⟨iB, 0, none⟩) (Blk.ne_ h.rbx hi (by decide)) _, h.pbx.far (p := ⟨iB, 0, none⟩) (Blk.ne_ h.pbx hi (by decide)) _,
    ⟨h.bag.1.far (p := ⟨iB, 0, none⟩) (Blk.ne_ h.bag.1 hi (by decide)) _, own_block_same h.bag.2 (fun k hk => Below.heap_setCell _ _ _ k (fun e => own_blk_ne h.bag.2 hi (by decide) (by rw [hk, e])))⟩, h.bel.setCell (p := ⟨iB, 0, none⟩) hw _, h.gw⟩
theorem func_nil (fn : Fn) (first cap : Array Value) (w : World) : (binOp .eql 29 (.func fn first cap) .nilFunc).run Try.prog w = .ok (.bool false) w := by kernel_rfl
theorem bagGoes_law (A : Option Addr) (n c : Nat) (zs : List Int) (st : Int) (w : World) (hr : Reads w w.heap.size 1 A n (zs.map (Value.int .i64))) (hn : n ≤ c) (hc : c ≤ maxLen) (h0 : 0 ≤ st) (h1 : st ≤ 255) :
    Calls Try.prog 3 #[.slice A n c, .int .u8 st] w fun e w' => e = .returned (.bool true) ∧ Below w.heap.size w w' := by
  unfold maxLen at hc
  have HR := Lib.hid hr
  have hzl : Hid (zs.length = n) := Lib.hid (by have := hr.1; simpa using this)
  obtain ⟨m, hm, hm40, hmn⟩ : ∃ m : Nat, min (n : Int) 40 = (m : Int) ∧ m ≤ 40 ∧ m ≤ n := ⟨min n 40, by omega, by omega, by omega⟩
  have hmin : (if (40 : Int) < (n : Int) then (40 : Int) else (n : Int)) = (m : Int) := by rw [← hm]; omega
  have hmf : ∀ (fn : Fn) (first cap : Array Value) (w : World), (Instr.makeFunc fn first cap).run Try.prog w = .ok (.func fn first cap) w := fun _ _ _ _ => rfl
  have hsN := Lib.hid hm
  have hfn := func_nil
  clear hr
  refine callsIn_wide.1 (callsIn_of_wp_marks (F := Fence.wide) (n := 9) Try.func3 rfl trivial (wpIn_wide.2 ?_) rfl)
  simp only [Try.ntmps3, List.size_toArray, List.length_cons, List.length_nil, Nat.reduceAdd, Nat.reduceSub, Array.replicate_succ, Array.replicate_zero, List.push_toArray, List.append_toArray, List.nil_append, List.cons_append]
  go_wp2_with (fail)
  refine (new_any 100 _).mono ?_
  rintro e w1 ⟨rfl, hA, hb⟩
  have HA := Lib.hid hA
  have H1 := Lib.hid hb
  have HM0 : Hid (GM w w.heap.size (w.heap.size + 1) (w.heap.size + 1 + 1) (w.heap.size + 1 + 1 + 1) w1.heap.size A n c st (.slice none 0 0) (goesB zs 0) (w1.alloc (.cells #[.pointer (some ⟨w.heap.size + 1 + 1 + 1, 0, none⟩)] 23))) := Lib.hid (by
    have hs : (((w.alloc (.cells #[.slice A n c] 22)).alloc (.cells #[.int .u8 st] 5)).alloc (.cells #[.bool false] 4)).heap.size = w.heap.size + 1 + 1 + 1 := by simp
    rw [hs] at hA hb
    have hs1 := hb.size
    rw [hs] at hs1
    have b1 : Blk w1 w.heap.size 22 #[.slice A n c] := (((Blk.new w _ _).alloc _).alloc _).below hb (by omega)
    have b2 : Blk w1 (w.heap.size + 1) 5 #[.int .u8 st] := by
      have := (Blk.new (w.alloc (.cells #[.slice A n c] 22)) 5 #[.int .u8 st]).alloc (.cells #[.bool false] 4)
      simp only [World.size_alloc] at this
      exact this.below hb (by omega)
    have b3 : Blk w1 (w.heap.size + 1 + 1) 4 #[.bool false] := by
      have := Blk.new ((w.alloc (.cells #[.slice A n c] 22)).alloc (.cells #[.int .u8 st] 5)) 4 #[.bool false]
      simp only [World.size_alloc] at this
      exact this.below hb (by omega)
    have hbw : Below w.heap.size w w1 := ((((Below.refl _ _).alloc (Nat.le_refl _) _).alloc (by simp) _).alloc (by simp <;> omega) _).trans (hb.mono (by omega))
    have hA' : BagAt w1 (w.heap.size + 1 + 1 + 1) (.slice none 0 0) (goesB zs 0) := hA
    exact ⟨b1.alloc _, b2.alloc _, b3.alloc _, Blk.new _ _ _, hA'.below ((Below.refl _ _).alloc (Nat.le_refl _) _), hbw.alloc hbw.size _, by omega⟩)
  have dl : (w1.alloc (.cells #[.pointer (some ⟨w.heap.size + 1 + 1 + 1, 0, none⟩)] 23)).cell? ⟨w.heap.size, 0, none⟩ = some (.slice A n c) := HM0.out.lbx.cell 0
  clear hA hb
  go_wp2_with (fail)
  generalize w1.alloc (.cells #[.pointer (some ⟨w.heap.size + 1 + 1 + 1, 0, none⟩)] 23) = w2 at *
  clear HA H1 dl hmin hm hsN
  generalize w.heap.size + 1 + 1 + 1 = g at *
  have hrB0 : w.heap.size ≤ w.heap.size + 1 + 1 := by omega
  generalize w.heap.size + 1 + 1 = rB at *
  generalize w.heap.size + 1 = sB at *
  generalize w1.heap.size = pB at *
  obtain ⟨lB, hlB⟩ : ∃ lB, lB = w.heap.size := ⟨_, rfl⟩
  have HM1 : Hid (GM w lB sB rB g pB A n c st (.slice none 0 0) (goesB zs 0) w2) := Lib.hid (by rw [hlB]; exact HM0.out)
  rw [← hlB]
  have HlB := Lib.hid hlB
  have hrw : w.heap.size ≤ rB := hrB0
  clear HM0 hlB
  go_loopw [7] (fun ia wr => ∃ (k : Nat) (v : Value), k ≤ m ∧ ia = .int .i64 k ∧ Hid (GM w lB sB rB g pB A n c st v (goesB zs k) wr)) (fun ia _ => m - (intOf ia).toNat)
  case atStart => exact ⟨0, _, by omega, rfl, HM1⟩
  case round =>
    clear HM1
    obtain ⟨k, v, hk, rfl, HM⟩ := hrel
    by_cases hlt : k < m
    · have hlt' : (k : Int) < m := by omega
      have hltn : (k : Int) < n := by omega
      obtain ⟨ad, z, rfl, hab, hz, hcw⟩ := reads_int HR.out (k := k) (by omega)
      have hab' : (ad.add k).block < w.heap.size := by rw [block_of_add]; exact hab
      have HCW := Lib.hid hcw
      have hcz := (HM.out.bel.cell hab').trans hcw
      clear hcw
      have HZ := Lib.hid (goes_put zs k z hz (by omega))
      have hgl := goes_len zs k
      have d0 : wr.cell? ⟨pB, 0, none⟩ = some (.pointer (some ⟨g, 0, none⟩)) := HM.out.pbx.cell 0
      have d1 : wr.cell? ⟨lB, 0, none⟩ = some (.slice (some ad) n c) := HM.out.lbx.cell 0
      have hq0 := HM.out.pbx.lt
      have hq1 := HM.out.lbx.lt
      have hq2 : (ad.add k).block < wr.heap.size := by rw [block_of_add]; have := HM.out.bel.size; omega
      clear hz
      go_wp2_with (fail)
      go_region_held3 (fun w' => w'.cell? ⟨pB, 0, none⟩ = some (.pointer (some ⟨g, 0, none⟩)) ∧ w'.cell? ⟨lB, 0, none⟩ = some (.slice (some ad) n c) ∧ w'.cell? (ad.add k) = some (.int .i64 z)) (go_keep) (first
        | (go_at_call 8; refine (put_any g v (goesB zs k) z _ ?_ ?_ ?_ ?_).mono ?_; (· exact (HM.out.below (by repeat (first | with_reducible exact Below.refl _ _ | with_reducible refine Below.alloc ?_ (by simp <;> omega) _ | with_reducible refine below_drewN ?_ _ | with_reducible refine Below.drew ?_))).bag); (· show (goesL zs k).length ≤ _; omega); (· show (0 : Int) ≤ (k : Int); omega); (· show (k : Int) ≤ 1000000; omega); rintro e w9 ⟨rfl, v', hA, hS⟩; rw [HZ.out] at hA; have HM9 := Lib.hid ((HM.out.below (by repeat (first | with_reducible exact Below.refl _ _ | with_reducible refine Below.alloc ?_ (by simp <;> omega) _ | with_reducible refine below_drewN ?_ _ | with_reducible refine Below.drew ?_))).step hS hA); replace d0 : w9.cell? ⟨pB, 0, none⟩ = some (.pointer (some ⟨g, 0, none⟩)) := HM9.out.pbx.cell 0; replace d1 : w9.cell? ⟨lB, 0, none⟩ = some (.slice (some ad) n c) := HM9.out.lbx.cell 0; replace hcz := (HM9.out.bel.cell hab').trans HCW.out; clear hA hS)
        | fail)
      all_goals
        go_wp2_with (fail)
        go_roundw
        case rel => first | exact ⟨k + 1, v', by omega, by go_num, HM9⟩ | ((repeat apply Exists.intro); exact ⟨⟨k + 1, v', by omega, by go_num, HM9⟩, rfl⟩)
        case measure => simp [intOf]; omega
    · obtain rfl : k = m := by omega
      have d0 : wr.cell? ⟨pB, 0, none⟩ = some (.pointer (some ⟨g, 0, none⟩)) := HM.out.pbx.cell 0
      go_wp2_with (fail)
      refine (all_any (some ⟨g, 0, none⟩) _).mono ?_
      rintro e w3 ⟨rfl, rfl⟩
      clear hlt
      go_wp2_with (fail)
      have HMW := Lib.hid (HM.out.below (((Below.refl _ _).alloc (Nat.le_refl _) (.cells #[.pointer (some ⟨g, 0, none⟩)] 23)).alloc (by simp) (.cells #[.int .i64 0] 3)))
      have hI0 : Hid (Blk ((wr.alloc (.cells #[.pointer (some ⟨g, 0, none⟩)] 23)).alloc (.cells #[.int .i64 0] 3)) (wr.heap.size + 1) 3 #[.int .i64 ((0 : Nat) : Int)]) := Lib.hid (by
        have := Blk.new (wr.alloc (.cells #[.pointer (some ⟨g, 0, none⟩)] 23)) 3 #[.int .i64 0]
        simpa using this)
      have hBx : Hid (((wr.alloc (.cells #[.pointer (some ⟨g, 0, none⟩)] 23)).alloc (.cells #[.int .i64 0] 3)).cell? ⟨wr.heap.size, 0, none⟩ = some (.pointer (some ⟨g, 0, none⟩))) := Lib.hid (by
        have := ((Blk.new wr 23 #[.pointer (some ⟨g, 0, none⟩)]).alloc (.cells #[.int .i64 0] 3)).cell 0
        exact this)
      have hsz : ((wr.alloc (.cells #[.pointer (some ⟨g, 0, none⟩)] 23)).alloc (.cells #[.int .i64 0] 3)).heap.size = wr.heap.size + 1 + 1 := by simp
      have hgw : g < wr.heap.size := HM.out.bag.1.lt
      have hww : w.heap.size ≤ wr.heap.size := HM.out.bel.size
      clear HM d0
      generalize (wr.alloc (.cells #[.pointer (some ⟨g, 0, none⟩)] 23)).alloc (.cells #[.int .i64 0] 3) = W0 at *
      obtain ⟨iB, hiB⟩ : ∃ iB, iB = wr.heap.size + 1 := ⟨_, rfl⟩
      rw [← hiB] at hI0 hsz ⊢
      have hiB1 : wr.heap.size < iB := by omega
      clear hiB
      generalize wr.heap.size = Bs at *
      have hlenG : (goesB zs k).l.length ≤ 1000000 := by show (goesL zs k).length ≤ _; rw [goes_len]; omega
      have hlk : (goesB zs k).l.length = k := goes_len zs k
      refine wpIn_wide.1 (wpIn_rangeFunc_ownG (F := Fence.wide) (n := 9) rfl (by omega) (gf := 23) (lb := #[.pointer (some ⟨Bs, 0, none⟩)]) rfl trivial (enters_of Try.func23 (by kernel_rfl) rfl)
        (all_stops 8 (by omega) Bs g W0.heap.size ⟨g, 2, none⟩ v (goesB zs k) hlenG W0 (by omega) hBx.out HMW.out.bag (show g < W0.heap.size by omega) (fun j hj => by
          unfold rowOf at hj
          rw [(bag_cells HMW.out.bag).2.2] at hj
          exact (HMW.out.bag.2.lt j hj).2) (Nat.le_refl _))
        (fun h1 h2 => h1.trans h2) (fun W l o o' hl h hc _ => BKp.putObj o' h hc (show g ≠ l by omega)) (Below.refl _ _) (fun _ => rfl)
        (fun pre W => ∃ v s, GM w lB sB rB g pB A n c st v s W ∧ s.most = 100 ∧ s.l.length = k ∧ s.last = (k : Int) + pre.length ∧ Blk W iB 3 #[.int .i64 (pre.length : Nat)] ∧ (pre.length : Int) ≤ st)
        (fun e pre W => (e = .ret ∧ ∃ q x, pre = q ++ [x] ∧ x ≠ ((q.length : Int) + 1, zs.getD q.length 0)) ∨
          (e = .exit 2 ∧ ∃ v s, GM w lB sB rB g pB A n c st v s W ∧ s.most = 100 ∧ s.l.length = k ∧ s.last = (k : Int) + pre.length ∧ Blk W iB 3 #[.int .i64 (pre.length : Nat)] ∧ (pre.length : Int) = st + 1))
        ?hI ?hIx ⟨v, goesB zs k, HMW.out, rfl, hlk, by simp [goesB], hI0.out, by simpa using h0⟩ ?a1 ?assign ?body ?done ?stop)
      case hI =>
        rintro pre W W' row ⟨v, s, h1, h2, h3, h4, h5, h6⟩ hg hr
        exact ⟨v, s, h1.turned hg (fun r e => ⟨by have := (hr r e).1; omega, (hr r e).2⟩), h2, h3, h4, h5.turned hg (fun r e => (hr r e).2), h6⟩
      case hIx =>
        rintro e pre W W' row (h | ⟨he, v, s, h1, h2, h3, h4, h5, h6⟩) hg hr
        · exact .inl h
        · exact .inr ⟨he, v, s, h1.turned hg (fun r e => ⟨by have := (hr r e).1; omega, (hr r e).2⟩), h2, h3, h4, h5.turned hg (fun r e => (hr r e).2), h6⟩
      case assign =>
        intro l x W K hK
        simp only [encI]
        gi_wp2
        exact hK
      case body =>
        rintro l pre x W ⟨v1, s, hM, h2, h3, h4, h5, h6⟩ hlen
        rw [hlk] at hlen
        have HM := Lib.hid hM
        have HI := Lib.hid h5
        obtain ⟨ad, z, rfl, hab, hz, hcw⟩ := reads_int HR.out (k := pre.length) (by omega)
        have hab' : (ad.add pre.length).block < w.heap.size := by rw [block_of_add]; exact hab
        have hcz := (HM.out.bel.cell hab').trans hcw
        have hzd : zs.getD pre.length 0 = z := by rw [List.getD_eq_getElem?_getD, hz]; rfl
        have hzd' := Lib.hid hzd
        have d0 : W.cell? ⟨pB, 0, none⟩ = some (.pointer (some ⟨g, 0, none⟩)) := HM.out.pbx.cell 0
        have d1 : W.cell? ⟨lB, 0, none⟩ = some (.slice (some ad) n c) := HM.out.lbx.cell 0
        have d2 : W.cell? ⟨iB, 0, none⟩ = some (.int .i64 (pre.length : Nat)) := HI.out.cell 0
        have d3 : W.cell? ⟨sB, 0, none⟩ = some (.int .u8 st) := HM.out.sbx.cell 0
        have d4 : W.cell? ⟨rB, 0, none⟩ = some (.bool false) := HM.out.rbx.cell 0
        have f4 := HM.out.rbx.frozen 0
        have hpn : (pre.length : Int) < n := by omega
        have hpw : IntKind.i64.wrap ((pre.length : Int) + 1) = (pre.length : Int) + 1 := by rw [IntKind.wrap_i64]; omega
        clear hM h5 hz hcw hzd hBx HMW hI0
        by_cases hx1 : x.1 = (pre.length : Int) + 1
        · by_cases hx2 : x.2 = z
          · have e1 : (x.1 != (pre.length : Int) + 1) = false := by simp [hx1]
            have e2 : (x.2 != z) = false := by simp [hx2]
            clear hx1 hx2 hzd'
            obtain ⟨b1, b2⟩ : (s.take 0).l.length ≤ 1000000 ∧ (s.take 0).last = s.last ∧ (s.take 0).most = s.most ∧ ((s.take 0).put x.2).l.length = k ∧ ((s.take 0).put x.2).last = (k : Int) + (pre.length : Int) + 1 ∧ ((s.take 0).put x.2).most = 100 := by
              have hh : s.has 0 = true := (Bg.has_iff s 0).2 ⟨by omega, by omega⟩
              have ht : s.take 0 = ⟨s.most, s.last, s.l.eraseIdx 0⟩ := by rw [Bg.take, if_pos hh]; rfl
              have hel : (s.l.eraseIdx 0).length = k - 1 := by rw [List.length_eraseIdx_of_lt (by omega), h3]
              have hpt : (s.take 0).put x.2 = ⟨s.most, s.last + 1, s.l.eraseIdx 0 ++ [(s.last + 1, x.2)]⟩ := by
                rw [ht]
                show (if s.most ≤ ((s.l.eraseIdx 0).length : Int) then _ else _) = _
                rw [if_neg (by rw [hel]; omega)]
              rw [hpt, ht]
              refine ⟨by show (s.l.eraseIdx 0).length ≤ _; omega, rfl, rfl, by simp [hel]; omega, by show s.last + 1 = _; omega, h2⟩
            have HBB := Lib.hid b2
            have hlast0 : 0 ≤ (s.take 0).last := by rw [b2.1]; omega
            have hlast1 : (s.take 0).last ≤ 1000000 := by rw [b2.1]; omega
            clear b2
            have n1 : iB ≠ sB := Blk.ne_ HI.out HM.out.sbx (by decide)
            have n2 : sB ≠ iB := fun e => n1 e.symm
            have hpl : (((pre ++ [x]).length : Nat) : Int) = (pre.length : Int) + 1 := by simp
            have HPL := Lib.hid hpl
            clear hpl
            by_cases hst : st < (pre.length : Int) + 1
            · gi_wp2_with (first
                | (refine ⟨trivial, ?_⟩; gi_at_call 10; refine (CallsIn.inRound l (callsIn_wide.2 (take_any g v1 s 0 W HM.out.bag))).mono ?_; rintro e W2 ⟨rfl, v2, hA2, hS2⟩; have HS2 := Lib.hid hS2; have HM2 := Lib.hid (HM.out.step hS2 hA2); have HI2 := Lib.hid (hS2.blk HM.out.bag HI.out (by decide) (by decide)); clear hA2 hS2 d0 d1 d2 d3 d4 f4; have d0 : W2.cell? ⟨pB, 0, none⟩ = some (.pointer (some ⟨g, 0, none⟩)) := HM2.out.pbx.cell 0)
                | (refine ⟨trivial, ?_⟩; gi_at_call 8; refine (CallsIn.inRound l (callsIn_wide.2 (put_any g v2 (s.take 0) x.2 W2 HM2.out.bag b1 hlast0 hlast1))).mono ?_; rintro e W3 ⟨rfl, v3, hA3, hS3⟩; have HS3 := Lib.hid hS3; have HM3 := Lib.hid (HM2.out.step hS3 hA3); have HI3 := Lib.hid (hS3.blk HM2.out.bag HI2.out (by decide) (by decide)); clear hA3 hS3 d0; have d2 : W3.cell? ⟨iB, 0, none⟩ = some (.int .i64 (pre.length : Nat)) := HI3.out.cell 0; have d3 : W3.cell? ⟨sB, 0, none⟩ = some (.int .u8 st) := HM3.out.sbx.cell 0; have f2 := HI3.out.frozen 0)
                | fail)
              have hM4 := HM3.out.seti HI3.out (by omega) (.int .i64 ((pre.length : Int) + 1))
              have hI4 : Blk (W3.setCell ⟨iB, 0, none⟩ (.int .i64 ((pre.length : Int) + 1))) iB 3 #[.int .i64 ((pre ++ [x]).length : Nat)] := by
                have := HI3.out.set_ 0 (.int .i64 ((pre.length : Int) + 1))
                rw [show ((pre ++ [x]).length : Nat) = pre.length + 1 from by simp]
                exact this
              have hK4 : KeepsFrom W0.heap.size W (W3.setCell ⟨iB, 0, none⟩ (.int .i64 ((pre.length : Int) + 1))) := ((HS2.out.keeps HM.out.bag _).trans (HS3.out.keeps HM2.out.bag _)).trans ((KeepsOthers.setCell _ _ _).from _)
              have hB4 : BKp W0.heap.size ⟨g, 2, none⟩ W (W3.setCell ⟨iB, 0, none⟩ (.int .i64 ((pre.length : Int) + 1))) := ((BKp.of_step HS2.out HM.out.bag HM2.out.bag (by omega)).trans (BKp.of_step HS3.out HM2.out.bag HM3.out.bag (by omega))).trans (BKp.setCell _ _ (by show iB < W0.heap.size; omega) (by show iB ≠ g; omega))
              exact ⟨hK4, .inr ⟨rfl, v3, _, hM4, HBB.out.2.2.2.2, HBB.out.2.2.1, by rw [HBB.out.2.2.2.1, HPL.out]; omega, hI4, by rw [HPL.out]; omega⟩⟩
            · have hst' : (pre.length : Int) + 1 ≤ st := by omega
              clear hst
              gi_wp2_with (first
                | (refine ⟨trivial, ?_⟩; gi_at_call 10; refine (CallsIn.inRound l (callsIn_wide.2 (take_any g v1 s 0 W HM.out.bag))).mono ?_; rintro e W2 ⟨rfl, v2, hA2, hS2⟩; have HS2 := Lib.hid hS2; have HM2 := Lib.hid (HM.out.step hS2 hA2); have HI2 := Lib.hid (hS2.blk HM.out.bag HI.out (by decide) (by decide)); clear hA2 hS2 d0 d1 d2 d3 d4 f4; have d0 : W2.cell? ⟨pB, 0, none⟩ = some (.pointer (some ⟨g, 0, none⟩)) := HM2.out.pbx.cell 0)
                | (refine ⟨trivial, ?_⟩; gi_at_call 8; refine (CallsIn.inRound l (callsIn_wide.2 (put_any g v2 (s.take 0) x.2 W2 HM2.out.bag b1 hlast0 hlast1))).mono ?_; rintro e W3 ⟨rfl, v3, hA3, hS3⟩; have HS3 := Lib.hid hS3; have HM3 := Lib.hid (HM2.out.step hS3 hA3); have HI3 := Lib.hid (hS3.blk HM2.out.bag HI2.out (by decide) (by decide)); clear hA3 hS3 d0; have d2 : W3.cell? ⟨iB, 0, none⟩ = some (.int .i64 (pre.length : Nat)) := HI3.out.cell 0; have d3 : W3.cell? ⟨sB, 0, none⟩ = some (.int .u8 st) := HM3.out.sbx.cell 0; have f2 := HI3.out.frozen 0)
                | fail)
              have hM4 := HM3.out.seti HI3.out (by omega) (.int .i64 ((pre.length : Int) + 1))
              have hI4 : Blk (W3.setCell ⟨iB, 0, none⟩ (.int .i64 ((pre.length : Int) + 1))) iB 3 #[.int .i64 ((pre ++ [x]).length : Nat)] := by
                have := HI3.out.set_ 0 (.int .i64 ((pre.length : Int) + 1))
                rw [show ((pre ++ [x]).length : Nat) = pre.length + 1 from by simp]
                exact this
              have hK4 : KeepsFrom W0.heap.size W (W3.setCell ⟨iB, 0, none⟩ (.int .i64 ((pre.length : Int) + 1))) := ((HS2.out.keeps HM.out.bag _).trans (HS3.out.keeps HM2.out.bag _)).trans ((KeepsOthers.setCell _ _ _).from _)
              have hB4 : BKp W0.heap.size ⟨g, 2, none⟩ W (W3.setCell ⟨iB, 0, none⟩ (.int .i64 ((pre.length : Int) + 1))) := ((BKp.of_step HS2.out HM.out.bag HM2.out.bag (by omega)).trans (BKp.of_step HS3.out HM2.out.bag HM3.out.bag (by omega))).trans (BKp.setCell _ _ (by show iB < W0.heap.size; omega) (by show iB ≠ g; omega))
              exact ⟨hK4, hB4, v3, _, hM4, HBB.out.2.2.2.2, HBB.out.2.2.1, by rw [HBB.out.2.2.2.1, HPL.out]; omega, hI4, by rw [HPL.out]; omega⟩
          · have e1 : (x.1 != (pre.length : Int) + 1) = false := by simp [hx1]
            have e2 : (x.2 != z) = true := by simp [hx2]
            have hne : Hid (x ≠ ((pre.length : Int) + 1, zs.getD pre.length 0)) := Lib.hid (by rw [hzd'.out]; intro e; exact hx2 (by rw [e]))
            clear hx1 hx2
            gi_wp2
            exact ⟨(KeepsOthers.setCell _ _ _).from _, .inl ⟨rfl, pre, x, rfl, hne.out⟩⟩
        · have e1 : (x.1 != (pre.length : Int) + 1) = true := by simp [hx1]
          have hne : Hid (x ≠ ((pre.length : Int) + 1, zs.getD pre.length 0)) := Lib.hid (by intro e; exact hx1 (by rw [e]))
          clear hx1
          gi_wp2
          exact ⟨(KeepsOthers.setCell _ _ _).from _, .inl ⟨rfl, pre, x, rfl, hne.out⟩⟩
      case done =>
        rintro D ys W hD rfl ⟨v1, s, hM, h2, h3, h4, h5, h6⟩ hK
        obtain ⟨q, hq⟩ : ∃ q, q = (goesB zs k).l.length := ⟨_, rfl⟩
        rw [← hq] at h4 h5 h6
        obtain rfl : q = k := by omega
        clear hq
        have HM := Lib.hid hM
        have HI := Lib.hid h5
        have HK := Lib.hid hK
        have d0 : W.cell? ⟨pB, 0, none⟩ = some (.pointer (some ⟨g, 0, none⟩)) := HM.out.pbx.cell 0
        have d2 : W.cell? ⟨iB, 0, none⟩ = some (.int .i64 (q : Int)) := HI.out.cell 0
        have d3 : W.cell? ⟨sB, 0, none⟩ = some (.int .u8 st) := HM.out.sbx.cell 0
        have d4 : W.cell? ⟨rB, 0, none⟩ = some (.bool false) := HM.out.rbx.cell 0
        have f4 := HM.out.rbx.frozen 0
        have q0 := HM.out.pbx.lt
        have q2 := HI.out.lt
        have q3 := HM.out.sbx.lt
        have q4 := HM.out.rbx.lt
        have e3 : (s.l.length : Int) = q := by omega
        have e4 : s.last = (q : Int) + q := h4
        have nr1 : rB ≠ pB := Blk.ne_ HM.out.rbx HM.out.pbx (by decide)
        have nr2 : rB ≠ iB := Blk.ne_ HM.out.rbx HI.out (by decide)
        have nr3 : rB ≠ sB := Blk.ne_ HM.out.rbx HM.out.sbx (by decide)
        have nr4 : pB ≠ rB := fun e => nr1 e.symm
        have nr5 : iB ≠ rB := fun e => nr2 e.symm
        have nr6 : sB ≠ rB := fun e => nr3 e.symm
        have e9 : IntKind.i64.wrap st = st := by rw [IntKind.wrap_i64]; omega
        have e5 : IntKind.i64.wrap (st + 1) = st + 1 := by rw [IntKind.wrap_i64]; omega
        have e6 : IntKind.i64.wrap ((q : Int) + q) = (q : Int) + q := by rw [IntKind.wrap_i64]; omega
        clear hM h5 hK h4 h3 HR hlenG hlk
        have e7 : (if st + 1 < (q : Int) then st + 1 else (q : Int)) = (q : Int) := by rw [if_neg (by omega)]
        go_wp2_with (fail)
        go_region_held3 (fun w' => w'.cell? ⟨pB, 0, none⟩ = some (.pointer (some ⟨g, 0, none⟩)) ∧ w'.cell? ⟨iB, 0, none⟩ = some (.int .i64 (q : Int)) ∧ w'.cell? ⟨sB, 0, none⟩ = some (.int .u8 st)) (go_keep) (first
          | (go_at_call 11; refine (len_any g v1 s _ ?_).mono ?_; (· exact (HM.out.below (by repeat (first | with_reducible exact Below.refl _ _ | with_reducible refine Below.alloc ?_ (by simp <;> omega) _ | with_reducible refine below_drewN ?_ _ | with_reducible refine Below.drew ?_))).bag); rintro e w9 ⟨rfl, rfl⟩)
          | (go_at_call 12; refine (last_any g v1 s _ ?_).mono ?_; (· exact (HM.out.below (by repeat (first | with_reducible exact Below.refl _ _ | with_reducible refine Below.alloc ?_ (by simp <;> omega) _ | with_reducible refine below_drewN ?_ _ | with_reducible refine Below.drew ?_))).bag); rintro e w9 ⟨rfl, rfl⟩)
          | (go_at_call 13; refine (awake_any _).mono ?_; rintro e w9 ⟨rfl, h⟩; replace HM := Lib.hid (HM.out.below (relay h (by repeat (first | with_reducible exact Below.refl _ _ | with_reducible refine Below.alloc ?_ (by simp <;> omega) _ | with_reducible refine below_drewN ?_ _ | with_reducible refine Below.drew ?_)))); replace HI := Lib.hid (HI.out.below (relay h (by repeat (first | with_reducible exact Below.refl _ _ | with_reducible refine Below.alloc ?_ (by simp <;> omega) _ | with_reducible refine below_drewN ?_ _ | with_reducible refine Below.drew ?_))) q2); replace HK := Lib.hid (((relay h (by repeat (first | with_reducible exact Below.refl _ _ | with_reducible refine Below.alloc ?_ (by simp <;> omega) _ | with_reducible refine below_drewN ?_ _ | with_reducible refine Below.drew ?_))).block D (Array.getElem?_eq_some_iff.1 HK.out).1).trans HK.out); replace d0 : w9.cell? ⟨pB, 0, none⟩ = some (.pointer (some ⟨g, 0, none⟩)) := HM.out.pbx.cell 0; replace d2 : w9.cell? ⟨iB, 0, none⟩ = some (.int .i64 (q : Int)) := HI.out.cell 0; replace d3 : w9.cell? ⟨sB, 0, none⟩ = some (.int .u8 st) := HM.out.sbx.cell 0; replace d4 : w9.cell? ⟨rB, 0, none⟩ = some (.bool false) := HM.out.rbx.cell 0; replace f4 := HM.out.rbx.frozen 0; clear h)
          | fail)
        all_goals
          have hKD : Hid ((w9.setCell ⟨rB, 0, none⟩ (.bool true)).heap[D]? = some (.deferred (some []))) := Lib.hid ((KeepsOthers.setCell _ _ _).same D _ HK.out rfl)
          have hR9 : Hid ((w9.setCell ⟨rB, 0, none⟩ (.bool true)).cell? ⟨rB, 0, none⟩ = some (.bool true)) := Lib.hid (World.cell?_setCell_same _ _ _ d4)
          have hB9 : Hid (Below w.heap.size w (w9.setCell ⟨rB, 0, none⟩ (.bool true))) := Lib.hid (HM.out.bel.setCell (p := ⟨rB, 0, none⟩) (by have := HMW; exact hrw) _)
          go_wp2_with (fail)
          refine ⟨by simp, .inl ⟨_, _, rfl, run_takeDeferred hKD.out, ?_⟩⟩
          have hc9 := cell_kept hR9.out (grownBy_putObj' _ D (.deferred none)) (fun r e => by cases e; exact ⟨_, hKD.out, rfl⟩)
          exact ⟨.bool true, by simp [results, Try.results3, go_sem, hc9], rfl, hB9.out.trans (belowK_b (w := w) (Nat.le_refl _) _ D _ _ (by omega) hKD.out rfl rfl)⟩
      case stop =>
        rintro D e pre W hD hpre hIxx hK
        rcases hIxx with ⟨rfl, q, x, rfl, hne⟩ | ⟨rfl, v1, s, hM, h2, h3, h4, h5, h6⟩
        · exfalso
          obtain ⟨r, hr⟩ := hpre
          apply hne
          have h7 : (goesL zs k)[q.length]? = some x := by
            show (goesB zs k).l[q.length]? = _
            rw [← hr, List.append_assoc, List.getElem?_append_right (Nat.le_refl _)]; simp
          have hlq : q.length < k := by
            have := (List.getElem?_eq_some_iff.1 h7).1
            rwa [goes_len] at this
          unfold goesL at h7
          rw [List.getElem?_map, List.getElem?_range hlq] at h7
          injection h7 with h7
          exact h7.symm
        · have hpl : pre.length ≤ k := by
            have := hpre.length_le
            rwa [hlk] at this
          obtain ⟨q, hq⟩ : ∃ q, q = pre.length := ⟨_, rfl⟩
          rw [← hq] at h4 h5 h6 hpl
          clear hq hpre
          have e7 : (if st + 1 < (k : Int) then st + 1 else (k : Int)) = (q : Int) := by split <;> omega
          have H6 := Lib.hid h6
          clear h6
          refine wpIn_wide.2 ?_
          have HM := Lib.hid hM
          have HI := Lib.hid h5
          have HK := Lib.hid hK
          have d0 : W.cell? ⟨pB, 0, none⟩ = some (.pointer (some ⟨g, 0, none⟩)) := HM.out.pbx.cell 0
          have d2 : W.cell? ⟨iB, 0, none⟩ = some (.int .i64 (q : Int)) := HI.out.cell 0
          have d3 : W.cell? ⟨sB, 0, none⟩ = some (.int .u8 st) := HM.out.sbx.cell 0
          have d4 : W.cell? ⟨rB, 0, none⟩ = some (.bool false) := HM.out.rbx.cell 0
          have f4 := HM.out.rbx.frozen 0
          have q0 := HM.out.pbx.lt
          have q2 := HI.out.lt
          have q3 := HM.out.sbx.lt
          have q4 := HM.out.rbx.lt
          have e3 : (s.l.length : Int) = k := by omega
          have e4 : s.last = (k : Int) + q := h4
          have nr1 : rB ≠ pB := Blk.ne_ HM.out.rbx HM.out.pbx (by decide)
          have nr2 : rB ≠ iB := Blk.ne_ HM.out.rbx HI.out (by decide)
          have nr3 : rB ≠ sB := Blk.ne_ HM.out.rbx HM.out.sbx (by decide)
          have nr4 : pB ≠ rB := fun e => nr1 e.symm
          have nr5 : iB ≠ rB := fun e => nr2 e.symm
          have nr6 : sB ≠ rB := fun e => nr3 e.symm
          have e9 : IntKind.i64.wrap st = st := by rw [IntKind.wrap_i64]; omega
          have e5 : IntKind.i64.wrap (st + 1) = st + 1 := by rw [IntKind.wrap_i64]; omega
          have e6 : IntKind.i64.wrap ((k : Int) + q) = (k : Int) + q := by rw [IntKind.wrap_i64]; omega
          clear hM h5 hK h4 h3 HR hlenG hlk
          go_wp2_with (fail)
          go_region_held3 (fun w' => w'.cell? ⟨pB, 0, none⟩ = some (.pointer (some ⟨g, 0, none⟩)) ∧ w'.cell? ⟨iB, 0, none⟩ = some (.int .i64 (q : Int)) ∧ w'.cell? ⟨sB, 0, none⟩ = some (.int .u8 st)) (go_keep) (first
            | (go_at_call 11; refine (len_any g v1 s _ ?_).mono ?_; (· exact (HM.out.below (by repeat (first | with_reducible exact Below.refl _ _ | with_reducible refine Below.alloc ?_ (by simp <;> omega) _ | with_reducible refine below_drewN ?_ _ | with_reducible refine Below.drew ?_))).bag); rintro e w9 ⟨rfl, rfl⟩)
            | (go_at_call 12; refine (last_any g v1 s _ ?_).mono ?_; (· exact (HM.out.below (by repeat (first | with_reducible exact Below.refl _ _ | with_reducible refine Below.alloc ?_ (by simp <;> omega) _ | with_reducible refine below_drewN ?_ _ | with_reducible refine Below.drew ?_))).bag); rintro e w9 ⟨rfl, rfl⟩)
            | (go_at_call 13; refine (awake_any _).mono ?_; rintro e w9 ⟨rfl, h⟩; replace HM := Lib.hid (HM.out.below (relay h (by repeat (first | with_reducible exact Below.refl _ _ | with_reducible refine Below.alloc ?_ (by simp <;> omega) _ | with_reducible refine below_drewN ?_ _ | with_reducible refine Below.drew ?_)))); replace HI := Lib.hid (HI.out.below (relay h (by repeat (first | with_reducible exact Below.refl _ _ | with_reducible refine Below.alloc ?_ (by simp <;> omega) _ | with_reducible refine below_drewN ?_ _ | with_reducible refine Below.drew ?_))) q2); replace HK := Lib.hid (((relay h (by repeat (first | with_reducible exact Below.refl _ _ | with_reducible refine Below.alloc ?_ (by simp <;> omega) _ | with_reducible refine below_drewN ?_ _ | with_reducible refine Below.drew ?_))).block D (Array.getElem?_eq_some_iff.1 HK.out).1).trans HK.out); replace d0 : w9.cell? ⟨pB, 0, none⟩ = some (.pointer (some ⟨g, 0, none⟩)) := HM.out.pbx.cell 0; replace d2 : w9.cell? ⟨iB, 0, none⟩ = some (.int .i64 (q : Int)) := HI.out.cell 0; replace d3 : w9.cell? ⟨sB, 0, none⟩ = some (.int .u8 st) := HM.out.sbx.cell 0; replace d4 : w9.cell? ⟨rB, 0, none⟩ = some (.bool false) := HM.out.rbx.cell 0; replace f4 := HM.out.rbx.frozen 0; clear h)
            | fail)
          all_goals
            have hKD : Hid ((w9.setCell ⟨rB, 0, none⟩ (.bool true)).heap[D]? = some (.deferred (some []))) := Lib.hid ((KeepsOthers.setCell _ _ _).same D _ HK.out rfl)
            have hR9 : Hid ((w9.setCell ⟨rB, 0, none⟩ (.bool true)).cell? ⟨rB, 0, none⟩ = some (.bool true)) := Lib.hid (World.cell?_setCell_same _ _ _ d4)
            have hB9 : Hid (Below w.heap.size w (w9.setCell ⟨rB, 0, none⟩ (.bool true))) := Lib.hid (HM.out.bel.setCell (p := ⟨rB, 0, none⟩) (by have := HMW; exact hrw) _)
            go_wp2_with (fail)
            refine ⟨by simp, .inl ⟨_, _, rfl, run_takeDeferred hKD.out, ?_⟩⟩
            have hc9 := cell_kept hR9.out (grownBy_putObj' _ D (.deferred none)) (fun r e => by cases e; exact ⟨_, hKD.out, rfl⟩)
            exact ⟨.bool true, by simp [results, Try.results3, go_sem, hc9], rfl, hB9.out.trans (belowK_b (w := w) (Nat.le_refl _) _ D _ _ (by omega) hKD.out rfl rfl)⟩
end Go.Proofs.Ytpkmbnmlepmceaa
