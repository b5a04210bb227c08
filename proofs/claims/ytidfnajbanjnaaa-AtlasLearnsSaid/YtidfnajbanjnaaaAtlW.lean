/- The walk of AtlasLearns. -/
import Derived.Test.YtidfnajbanjnaaaAtlV

namespace Go.Proofs.Ytidfnajbanjnaaa
open Go.RowKit
set_option linter.unusedSimpArgs false
set_option linter.unusedVariables false
set_option maxHeartbeats 8000000
set_option maxRecDepth 100000
attribute [local go_sem] Cf.agg Cf.cells

/-- the reference's configurations, beside an atlas of row q -/
structure RIn (w W : World) (q : Nat) (A : Option Addr) (n : Nat) (l : List Cf) : Prop where
  rd : Reads W W.heap.size 5 A n (l.flatMap Cf.row)
  ne : ∀ ad, A = some ad → ad.block ≠ q
  mem : ∀ z ∈ l, CfIn W w.heap.size z
theorem RIn.cfs {w W : World} {q n : Nat} {A : Option Addr} {l : List Cf} (h : RIn w W q A n l) (hs : w.heap.size ≤ W.heap.size) : CfsIn W W.heap.size A n l :=
  ⟨h.rd, fun z hz => ⟨(h.mem z hz).rd.more hs, (h.mem z hz).hc, (h.mem z hz).hm⟩⟩
theorem RIn.below {w W W' : World} {q n : Nat} {A : Option Addr} {l : List Cf} (h : RIn w W q A n l) (hb : Below W.heap.size W W') (hs : w.heap.size ≤ W.heap.size) : RIn w W' q A n l :=
  ⟨(h.rd.below hb).more hb.size, h.ne, fun z hz => (h.mem z hz).below (hb.mono hs)⟩
theorem RIn.chg {w W W' : World} {q n : Nat} {A : Option Addr} {l : List Cf} (h : RIn w W q A n l) (hc : Chg W W' (· = q)) (hs : w.heap.size ≤ W.heap.size) (hq : w.heap.size ≤ q) : RIn w W' q A n l :=
  ⟨(hc.reads h.rd (Nat.le_refl _) (fun ad _ he => h.ne ad he)).more hc.size, h.ne, fun z hz => (h.mem z hz).below (hc.below hs (fun k hk e => by omega))⟩
/-- what stands in a row of configurations, at a place -/
theorem atx_at {w : World} {b0 G q h cB n : Nat} {o : List Cf} (a : AtX w b0 G q h cB o) (hn : o.length = n) : 1 ≤ n ∧ n ≤ 4 := by rw [← hn]; exact a.few.1
theorem of_with (b0 G q h cB : Nat) (o : List Cf) (x : Cf) (k c : Nat) (hk : k < 4294967296) (w : World) (a : AtX w b0 G q h cB o) (hc : (chainV k o.length).toNat = c) (hx : (o.map Cf.val)[c]? = some x.val) (hl : x.zs.length = x.len) :
    Calls Try.prog 11 #[.pointer (some ⟨G, 0, none⟩), .int .u32 k] w fun e w' => ∃ A2 c2, e = .returned (Cf.agg ⟨x.ch, x.ep, A2, x.len, c2, x.fr, x.jn, x.zs⟩) ∧ CfIn w' w'.heap.size ⟨x.ch, x.ep, A2, x.len, c2, x.fr, x.jn, x.zs⟩ ∧ Below w.heap.size w w' := by
  refine (of_any b0 G q h cB o k hk w a).mono ?_
  rintro e w1 ⟨y, rfl, hy, ho, hb⟩
  rw [hc, hx] at hy
  obtain ⟨A2, c2, rfl⟩ := val_eq (Option.some.inj hy) hl ho.len_
  exact ⟨A2, c2, rfl, ho.in_, hb⟩
theorem head_with (b0 G q h cB : Nat) (o : List Cf) (x : Cf) (k c : Nat) (hk : k < 4294967296) (w : World) (a : AtX w b0 G q h cB o) (hc : (chainV k o.length).toNat = c) (hx : (o.map Cf.val)[c]? = some x.val) (hl : x.zs.length = x.len) :
    Calls Try.prog 17 #[.pointer (some ⟨G, 0, none⟩), .int .u32 k] w fun e w' => e = .returned (.int .i64 x.headV) ∧ Below w.heap.size w w' := by
  refine (aHead_any b0 G q h cB o k hk w a).mono ?_
  rintro e w1 ⟨y, hy, rfl, hb⟩
  have h1 := hy.1
  rw [List.length_map, hc, hx] at h1
  obtain ⟨A2, c2, rfl⟩ := val_eq (Option.some.inj h1) hl hy.2
  exact ⟨rfl, hb⟩
theorem reader_with (b0 G q h cB : Nat) (o : List Cf) (x : Cf) (k c : Nat) (hk : k < 4294967296) (w : World) (a : AtX w b0 G q h cB o) (hc : (chainV k o.length).toNat = c) (hx : (o.map Cf.val)[c]? = some x.val) (hl : x.zs.length = x.len) :
    Calls Try.prog 19 #[.pointer (some ⟨G, 0, none⟩), .int .u32 k, .int .i64 k] w fun e w' => e = .returned (.int .i64 (x.readV k)) ∧ Below w.heap.size w w' := by
  refine (aReader_any b0 G q h cB o k hk k (by omega) w a).mono ?_
  rintro e w1 ⟨y, hy, rfl, hb⟩
  have h1 := hy.1
  rw [List.length_map, hc, hx] at h1
  obtain ⟨A2, c2, rfl⟩ := val_eq (Option.some.inj h1) hl hy.2
  exact ⟨rfl, hb⟩
/-- a place among n -/
theorem chain_lt (k n : Nat) (hn : 1 ≤ n) : ∃ c : Nat, c < n ∧ chainV k n = c := by
  have := chainV_lt k n (by omega)
  exact ⟨(chainV k n).toNat, by omega, by omega⟩

theorem atlasLearns_law (A C : Option Addr) (n cp m cq k : Nat) (l le : List Cf) (w : World) (hk : k < 4294967296) (hn : n ≤ cp) (hcp : cp ≤ maxLen) (hl : CfsIn w w.heap.size A n l) (hle : CfsIn w w.heap.size C m le) :
    Calls Try.prog 4 #[.slice A n cp, .slice C m cq, .int .u32 k] w fun e w' => e = .returned (.bool true) ∧ Below w.heap.size w w' := by
  have HL := Lib.hid hl
  have HLE := Lib.hid hle
  have HN := Lib.hid hn
  have HCP := Lib.hid hcp
  clear hl hle hn hcp
  have AW := awake_any
  by_cases hout : 6 < n ∨ 40 < m
  · have hcase : (6 : Int) < n ∨ ((n : Int) ≤ 6 ∧ (40 : Int) < m) := by omega
    clear hout
    rcases hcase with h0 | ⟨h0, h1⟩
    all_goals
      go_enter Try.func4, Try.ntmps4
      go_wp2_with (fail)
      refine (AW _).mono ?_
      rintro e w12 ⟨rfl, h1⟩
      have HB12 := Lib.hid h1
      clear h1
      go_wp2_with (fail)
      go_ret
      exact ⟨rfl, HB12.out⟩
  have hn6 : (n : Int) ≤ 6 := by omega
  have hm40 : (m : Int) ≤ 40 := by omega
  clear hout
  have fd : ∀ (a b f j : Value) (v : Value) (w : World), (Instr.field 35 (.agg #[a, b, v, f, j]) 1).run Try.prog w = .ok b w := fun _ _ _ _ _ _ => rfl
  go_enter Try.func4, Try.ntmps4
  go_wp2_with (fail)
  refine (new_any A n cp w.heap.size l w HL.out (Nat.le_refl _)).mono ?_
  rintro e w1 ⟨hb1, hp⟩
  have HB1 := Lib.hid hb1
  have hs1 := hb1.size
  have RA := Lib.hid (refAll_any A n cp w.heap.size l w1 (HL.out.below hb1) hs1 (by omega))
  clear hb1
  rcases hp with ⟨hall, rfl⟩ | ⟨hall, G, rfl, hat⟩
  · rw [hall] at RA
    go_wp2_with (fail)
    refine RA.out.mono ?_
    rintro e w2 ⟨rfl, h2⟩
    have HB2 := Lib.hid (HB1.out.trans (h2.mono hs1))
    clear h2 RA
    go_wp2_with (fail)
    refine (AW _).mono ?_
    rintro e w3 ⟨rfl, h3⟩
    have HB3 := Lib.hid (HB2.out.trans (h3.mono HB2.out.size))
    clear h3
    go_wp2_with (fail)
    go_ret
    exact ⟨rfl, HB3.out⟩
  rw [hall] at RA
  obtain ⟨q, h, cB, o, hx, hov⟩ := hat
  have hol : o.length = n := by have := congrArg List.length hov; simpa [HL.out.len] using this
  have hn14 := atx_at hx hol
  have hq0 : w.heap.size ≤ q := by have h1 := hx.b0; have h2 := hx.lt; omega
  have AX1 := Lib.hid hx
  have HOV := Lib.hid hov
  have HOL := Lib.hid hol
  clear hx hov hol hall
  go_wp2_with (fail)
  refine RA.out.mono ?_
  rintro e w2 ⟨rfl, h2⟩
  have HB2 := Lib.hid (HB1.out.trans (h2.mono hs1))
  have AX2 := Lib.hid (AX1.out.below h2)
  have RI2 : Hid (RIn w w2 q A n l) := Lib.hid ⟨(HL.out.below HB2.out).rd.more HB2.out.size, fun ad he => by
    obtain ⟨ad', he', hlt, _⟩ := HL.out.rd.2 (by omega)
    rw [he] at he'
    cases he'
    omega, fun z hz => (HL.out.below HB2.out).mem z hz⟩
  clear h2 RA AX1
  obtain ⟨c, hcn, hcv⟩ := chain_lt k n hn14.1
  have CH := Lib.hid hcv
  clear hcv
  go_wp2_with (fail)
  go_loopw [9, 10, 11, 12, 13] (fun rv ia _ _ _ wr => ∃ (i : Nat) (A' : Option Addr) (c' : Nat) (lr o : List Cf), i ≤ m ∧ ia = .int .i64 i ∧ rv = .slice A' n c' ∧ Hid (n ≤ c' ∧ c' ≤ maxLen) ∧ Hid (AtX wr w.heap.size G q h cB o) ∧ Hid (RIn w wr q A' n lr) ∧ Hid (o.map Cf.val = lr.map Cf.val) ∧ Hid (Below w.heap.size w wr)) (fun _ ia _ _ _ _ => m - (intOf ia).toNat)
  case atStart => exact ⟨0, A, cp, l, o, by omega, rfl, rfl, Lib.hid ⟨HN.out, HCP.out⟩, AX2, RI2, HOV, HB2⟩
  case round =>
    clear AX2 RI2 HOV HB2 HOL HB1 hs1
    obtain ⟨i, A', c', lr, o, him, rfl, rfl, HC, AX, RI, HV, HB⟩ := hrel
    have hsz := HB.out.size
    have HOL : Hid (o.length = n) := Lib.hid (by have := congrArg List.length HV.out; simpa [(RI.out.cfs hsz).len] using this)
    by_cases hl : i < m
    · have hl' : (i : Int) < m := by omega
      obtain ⟨b, off, x, rfl, hbb, hxi, hxin, d0, d1, d2, d3, d4⟩ := (HLE.out.below HB.out).at_ hl
      have HX := Lib.hid hxin
      clear hxin hxi
      by_cases h30 : 30 < x.len
      · have h30' : (30 : Int) < x.len := by omega
        go_wp2_with (fail)
        refine (AW _).mono ?_
        rintro e w12 ⟨rfl, h1⟩
        have HB12 := Lib.hid (HB.out.trans (h1.mono hsz))
        clear h1
        go_wp2_with (fail)
        go_ret
        exact ⟨rfl, HB12.out⟩
      have h30' : (x.len : Int) ≤ 30 := by omega
      go_wp2_with (fail)
      refine (of_any w.heap.size G q h cB o k hk wr AX.out).mono ?_
      rintro e w3 ⟨y, rfl, hy, _, h3⟩
      rw [HOL.out, CH.out, Int.toNat_natCast] at hy
      have HY := Lib.hid hy
      have HB3 := Lib.hid (HB.out.trans (h3.mono hsz))
      have AX3 := Lib.hid (AX.out.below h3)
      have RI3 := Lib.hid (RI.out.below h3 hsz)
      have hs3 := HB3.out.size
      replace d0 := (h3.cell (p := ⟨b, off + i * 5, none⟩) (by show b < _; omega)).trans d0
      replace d1 := (h3.cell (p := ⟨b, off + i * 5 + 1, none⟩) (by show b < _; omega)).trans d1
      replace d2 := (h3.cell (p := ⟨b, off + i * 5 + 2, none⟩) (by show b < _; omega)).trans d2
      replace d3 := (h3.cell (p := ⟨b, off + i * 5 + 3, none⟩) (by show b < _; omega)).trans d3
      replace d4 := (h3.cell (p := ⟨b, off + i * 5 + 4, none⟩) (by show b < _; omega)).trans d4
      have HX3 := Lib.hid (HX.out.below (h3.mono hsz))
      clear hy h3 AX RI HX
      go_wp2_with (fail)
      refine (refLearn_any A' n c' w3.heap.size w.heap.size lr x w3 (RI3.out.cfs hs3) (Nat.le_refl _) HX3.out hs3 (by omega) HC.out.1 HC.out.2).mono ?_
      rintro e w4 ⟨h4, A4, c4, lr4, rfl, hcf4, hv4, hc41, hc42, hA4, hm4⟩
      have HC4 := Lib.hid (show n ≤ c4 ∧ c4 ≤ maxLen from ⟨hc41, hc42⟩)
      have HB4 := Lib.hid (HB3.out.trans (h4.mono hs3))
      have AX4 := Lib.hid (AX3.out.below h4)
      have HX4 := Lib.hid (HX3.out.below (h4.mono hs3))
      have hs4 := HB4.out.size
      have RI4 : Hid (RIn w w4 q A4 n lr4) := Lib.hid ⟨hcf4.rd, fun ad he => by
        rcases hA4 with e | ⟨g, e, hg⟩
        · exact RI3.out.ne ad (e ▸ he)
        · rw [e] at he
          cases he
          have := AX3.out.conf.lt
          simp only
          omega, fun z hz => by
        rcases hm4 z hz with h | h
        · exact (RI3.out.mem z h).below (h4.mono hs3)
        · rw [h]; exact HX4.out⟩
      have HV4 := Lib.hid hv4
      replace d0 := (h4.cell (p := ⟨b, off + i * 5, none⟩) (by show b < _; omega)).trans d0
      replace d1 := (h4.cell (p := ⟨b, off + i * 5 + 1, none⟩) (by show b < _; omega)).trans d1
      replace d2 := (h4.cell (p := ⟨b, off + i * 5 + 2, none⟩) (by show b < _; omega)).trans d2
      replace d3 := (h4.cell (p := ⟨b, off + i * 5 + 3, none⟩) (by show b < _; omega)).trans d3
      replace d4 := (h4.cell (p := ⟨b, off + i * 5 + 4, none⟩) (by show b < _; omega)).trans d4
      clear h4 hcf4 hv4 hc41 hc42 hA4 hm4 AX3 RI3 HX3 HC
      have LB := Lib.hid (atLearn_any w.heap.size G w.heap.size q h cB o x w4 AX4.out HX4.out hs4 (by omega))
      rw [← HV.out]
      go_wp2_with (fail)
      refine LB.out.mono ?_
      rintro e w5 ⟨rfl, ⟨o5, ha5, hv5⟩, hc5⟩
      have AX5 := Lib.hid ha5
      have HV5 := Lib.hid hv5
      have HB5 := Lib.hid (HB4.out.trans (hc5.below hs4 (fun k hk e => by omega)))
      have RI5 := Lib.hid (RI4.out.chg hc5 hs4 hq0)
      have hs5 := HB5.out.size
      have HOL5 : Hid (o5.length = n) := Lib.hid (by have := congrArg List.length hv5; simpa [learn_len, HOL.out] using this)
      clear ha5 hv5 hc5 AX4 RI4 HX4 LB d0 d1 d2 d3 d4
      go_wp2_with (fail)
      refine (of_any w.heap.size G q h cB o5 k hk w5 AX5.out).mono ?_
      rintro e w6 ⟨y6, rfl, hy6, _, h6⟩
      rw [HOL5.out, CH.out, Int.toNat_natCast, HV5.out] at hy6
      have hle := learn_ep HY.out hy6
      have hge : decide ((y6.ep : Int) < y.ep) = false := by simp only [Cf.val] at hle; simp; omega
      have HB6 := Lib.hid (HB5.out.trans (h6.mono hs5))
      have AX6 := Lib.hid (AX5.out.below h6)
      have RI6 := Lib.hid (RI5.out.below h6 hs5)
      have hs6 := HB6.out.size
      have hge' : (y.ep : Int) ≤ y6.ep := by simp only [Cf.val] at hle; omega
      clear hle hy6 h6 AX5 RI5 HY
      go_wp2_with (fail)
      have CF := confs_any w.heap.size G q h cB o5 w6 AX6.out
      rw [HOL5.out] at CF
      refine CF.mono ?_
      rintro e w7 ⟨o7, rfl, hcp7⟩
      have HB7 := Lib.hid (HB6.out.trans (hcp7.bel.mono hs6))
      have AX7 := Lib.hid (AX6.out.below hcp7.bel)
      have RI7 := Lib.hid (RI6.out.below hcp7.bel hs6)
      have hs7 := HB7.out.size
      have HCF7 := Lib.hid hcp7.cfs
      have HV7 : Hid (o7.map Cf.val = lr4.map Cf.val) := Lib.hid (by
        have hv := hcp7.val
        rw [List.take_of_length_le (by rw [HOL5.out]; exact Nat.le_refl _)] at hv
        rw [hv, HV5.out, HV4.out, HV.out])
      clear CF hcp7 AX6 RI6
      go_wp2_with (fail)
      refine (sameAll_any _ A4 n n c4 w7.heap.size w7.heap.size o7 lr4 w7 HCF7.out (RI7.out.cfs hs7) HV7.out (Nat.le_refl _) (Nat.le_refl _) (by omega)).mono ?_
      rintro e w8 ⟨rfl, h8⟩
      have HB8 := Lib.hid (HB7.out.trans (h8.mono hs7))
      have AX8 := Lib.hid (AX7.out.below h8)
      have RI8 := Lib.hid (RI7.out.below h8 hs7)
      have HV8 : Hid (o5.map Cf.val = lr4.map Cf.val) := Lib.hid (by rw [HV5.out, HV4.out, HV.out])
      clear h8 AX7 RI7 HCF7
      go_wp2_with (fail)
      go_roundw
      case rel => exact ⟨i + 1, A4, c4, lr4, o5, by omega, by go_num, rfl, HC4, AX8, RI8, HV8, HB8⟩
      case measure => simp [intOf]; omega
    · obtain rfl : i = m := by omega
      obtain ⟨b, off, x, rfl, hbb, hxc, hxin, d0, d1, d2, d3, d4⟩ := (RI.out.cfs hsz).at_ hcn
      have hxl := hxin.len_eq
      have HVX : Hid ((o.map Cf.val)[c]? = some x.val) := Lib.hid (by rw [HV.out, List.getElem?_map, hxc]; rfl)
      have hcn' : (c : Int) < n := by omega
      have CW := refChain_any k hk n (by omega)
      rw [CH.out] at CW
      go_wp2_with (fail)
      refine (CW _).mono ?_
      rintro e w' ⟨rfl, rfl⟩
      clear CW
      obtain ⟨gB, hgB0⟩ : ∃ gB, gB = wr.heap.size := ⟨_, rfl⟩
      obtain ⟨w5, hw5⟩ : ∃ w5, w5 = wr.alloc (.cells x.cells 35) := ⟨_, rfl⟩
      have hgB : gB < w5.heap.size := by rw [hw5, hgB0]; simp
      have hbl := Blk.new wr 35 x.cells
      rw [← hw5, ← hgB0] at hbl
      have hb5 : Below wr.heap.size wr w5 := by rw [hw5]; exact (Below.refl _ _).alloc (Nat.le_refl _) _
      have HB5 := Lib.hid (HB.out.trans (hb5.mono hsz))
      have AX5 := Lib.hid (AX.out.below hb5)
      have HX5 := Lib.hid (hxin.below hb5)
      have hs5 := hb5.size
      obtain ⟨k0, k1, k2, k3, k4⟩ := cf_cells (x := x) hbl
      have P := Lib.hid (show _ ∧ _ ∧ _ ∧ _ ∧ _ from ⟨k0, k1, k2, k3, k4⟩)
      have hcc : (chainV k o.length).toNat = c := by rw [HOL.out, CH.out]; exact Int.toNat_natCast c
      have SA := Lib.hid (fun W (h9 : Below w5.heap.size w5 W) => of_with w.heap.size G q h cB o x k c hk W (AX5.out.below h9) hcc HVX.out hxl)
      have SB := Lib.hid (fun W (h9 : Below w5.heap.size w5 W) => head_with w.heap.size G q h cB o x k c hk W (AX5.out.below h9) hcc HVX.out hxl)
      have SC := Lib.hid (fun W (h9 : Below w5.heap.size w5 W) => reader_with w.heap.size G q h cB o x k c hk W (AX5.out.below h9) hcc HVX.out hxl)
      have SD := Lib.hid (fun W (h9 : Below w5.heap.size w5 W) => chains_any w.heap.size G q h cB o W (AX5.out.below h9))
      rw [HOL.out] at SD
      have SE := Lib.hid (fun W (h9 : Below w5.heap.size w5 W) => refHead_any x wr.heap.size W (HX5.out.below (h9.mono hs5)) (Nat.le_trans hs5 h9.size))
      have SF := Lib.hid (fun W (h9 : Below w5.heap.size w5 W) => refReader_any x k (by omega) wr.heap.size W (HX5.out.below (h9.mono hs5)) (Nat.le_trans hs5 h9.size))
      have SG := Lib.hid (fun W (A2 : Option Addr) (c2 : Nat) (h8 : CfIn W W.heap.size ⟨x.ch, x.ep, A2, x.len, c2, x.fr, x.jn, x.zs⟩) (h9 : Below w5.heap.size w5 W) => same_any ⟨x.ch, x.ep, A2, x.len, c2, x.fr, x.jn, x.zs⟩ x W.heap.size wr.heap.size W h8 (Nat.le_refl _) (HX5.out.below (h9.mono hs5)) (Nat.le_trans hs5 h9.size) rfl)
      have HW5 := Lib.hid hw5
      have HGB := Lib.hid hgB0
      generalize x.headV = hd at *
      generalize x.readV k = rd at *
      clear hxin hbl hb5 hw5 hgB0 k0 k1 k2 k3 k4
      obtain ⟨xch, xep, xA, xlen, xcap, xfr, xjn, xzs⟩ := x
      simp only [] at d0 d1 d2 d3 d4
      have hb : Below w5.heap.size w5 w5.drew := (Below.refl _ _).drew
      have hwk : IntKind.i64.wrap (k : Int) = k := by rw [IntKind.wrap_i64]; omega
      have p0 : w5.drew.cell? ⟨gB, 0, none⟩ = some (.int .i64 xch) := P.out.1
      have p1 : w5.drew.cell? ⟨gB, 1, none⟩ = some (.int .u64 xep) := P.out.2.1
      have p2 : w5.drew.cell? ⟨gB, 2, none⟩ = some (.slice xA xlen xcap) := P.out.2.2.1
      have p3 : w5.drew.cell? ⟨gB, 3, none⟩ = some (.bool xfr) := P.out.2.2.2.1
      have p4 : w5.drew.cell? ⟨gB, 4, none⟩ = some (.int .i64 xjn) := P.out.2.2.2.2
      go_wp2_with (fail)
      rw [show wr.alloc (.cells #[.int .i64 xch, .int .u64 xep, .slice xA xlen xcap, .bool xfr, .int .i64 xjn] 35) = w5 from HW5.out.symm]
      rw [show wr.heap.size = gB from HGB.out.symm]
      go_region_held3 (fun w' => w'.cell? ⟨gB, 0, none⟩ = some (.int .i64 xch) ∧ w'.cell? ⟨gB, 1, none⟩ = some (.int .u64 xep) ∧ w'.cell? ⟨gB, 2, none⟩ = some (.slice xA xlen xcap) ∧ w'.cell? ⟨gB, 3, none⟩ = some (.bool xfr) ∧ w'.cell? ⟨gB, 4, none⟩ = some (.int .i64 xjn)) (go_keep) (first
        | (go_at_call 11; refine (SA.out _ hb).mono ?_; rintro e w6 ⟨A2, c2, rfl, hc6, hb6⟩; replace hb := hb.trans (hb6.mono hb.size); replace p0 := (hb.cell (p := ⟨gB, 0, none⟩) hgB).trans P.out.1; replace p1 := (hb.cell (p := ⟨gB, 1, none⟩) hgB).trans P.out.2.1; replace p2 := (hb.cell (p := ⟨gB, 2, none⟩) hgB).trans P.out.2.2.1; replace p3 := (hb.cell (p := ⟨gB, 3, none⟩) hgB).trans P.out.2.2.2.1; replace p4 := (hb.cell (p := ⟨gB, 4, none⟩) hgB).trans P.out.2.2.2.2; clear hb6)
        | (go_at_call 16; refine (SG.out _ _ _ hc6 hb).mono ?_; rintro e w6 ⟨rfl, hb6⟩; replace hb := hb.trans (hb6.mono hb.size); replace p0 := (hb.cell (p := ⟨gB, 0, none⟩) hgB).trans P.out.1; replace p1 := (hb.cell (p := ⟨gB, 1, none⟩) hgB).trans P.out.2.1; replace p2 := (hb.cell (p := ⟨gB, 2, none⟩) hgB).trans P.out.2.2.1; replace p3 := (hb.cell (p := ⟨gB, 3, none⟩) hgB).trans P.out.2.2.2.1; replace p4 := (hb.cell (p := ⟨gB, 4, none⟩) hgB).trans P.out.2.2.2.2; clear hb6)
        | (go_at_call 17; refine (SB.out _ hb).mono ?_; rintro e w6 ⟨rfl, hb6⟩; replace hb := hb.trans (hb6.mono hb.size); replace p0 := (hb.cell (p := ⟨gB, 0, none⟩) hgB).trans P.out.1; replace p1 := (hb.cell (p := ⟨gB, 1, none⟩) hgB).trans P.out.2.1; replace p2 := (hb.cell (p := ⟨gB, 2, none⟩) hgB).trans P.out.2.2.1; replace p3 := (hb.cell (p := ⟨gB, 3, none⟩) hgB).trans P.out.2.2.2.1; replace p4 := (hb.cell (p := ⟨gB, 4, none⟩) hgB).trans P.out.2.2.2.2; clear hb6)
        | (go_at_call 18; refine (SE.out _ hb).mono ?_; rintro e w6 ⟨rfl, hb6⟩; replace hb := hb.trans (hb6.mono hb.size); replace p0 := (hb.cell (p := ⟨gB, 0, none⟩) hgB).trans P.out.1; replace p1 := (hb.cell (p := ⟨gB, 1, none⟩) hgB).trans P.out.2.1; replace p2 := (hb.cell (p := ⟨gB, 2, none⟩) hgB).trans P.out.2.2.1; replace p3 := (hb.cell (p := ⟨gB, 3, none⟩) hgB).trans P.out.2.2.2.1; replace p4 := (hb.cell (p := ⟨gB, 4, none⟩) hgB).trans P.out.2.2.2.2; clear hb6)
        | (go_at_call 19; refine (SC.out _ hb).mono ?_; rintro e w6 ⟨rfl, hb6⟩; replace hb := hb.trans (hb6.mono hb.size); replace p0 := (hb.cell (p := ⟨gB, 0, none⟩) hgB).trans P.out.1; replace p1 := (hb.cell (p := ⟨gB, 1, none⟩) hgB).trans P.out.2.1; replace p2 := (hb.cell (p := ⟨gB, 2, none⟩) hgB).trans P.out.2.2.1; replace p3 := (hb.cell (p := ⟨gB, 3, none⟩) hgB).trans P.out.2.2.2.1; replace p4 := (hb.cell (p := ⟨gB, 4, none⟩) hgB).trans P.out.2.2.2.2; clear hb6)
        | (go_at_call 20; refine (SF.out _ hb).mono ?_; rintro e w6 ⟨rfl, hb6⟩; replace hb := hb.trans (hb6.mono hb.size); replace p0 := (hb.cell (p := ⟨gB, 0, none⟩) hgB).trans P.out.1; replace p1 := (hb.cell (p := ⟨gB, 1, none⟩) hgB).trans P.out.2.1; replace p2 := (hb.cell (p := ⟨gB, 2, none⟩) hgB).trans P.out.2.2.1; replace p3 := (hb.cell (p := ⟨gB, 3, none⟩) hgB).trans P.out.2.2.2.1; replace p4 := (hb.cell (p := ⟨gB, 4, none⟩) hgB).trans P.out.2.2.2.2; clear hb6)
        | (go_at_call 21; refine (SD.out _ hb).mono ?_; rintro e w6 ⟨rfl, rfl⟩)
        | (go_at_call 8; refine (AW _).mono ?_; rintro e w6 ⟨rfl, hb6⟩; replace hb := hb.trans (hb6.mono hb.size); replace p0 := (hb.cell (p := ⟨gB, 0, none⟩) hgB).trans P.out.1; replace p1 := (hb.cell (p := ⟨gB, 1, none⟩) hgB).trans P.out.2.1; replace p2 := (hb.cell (p := ⟨gB, 2, none⟩) hgB).trans P.out.2.2.1; replace p3 := (hb.cell (p := ⟨gB, 3, none⟩) hgB).trans P.out.2.2.2.1; replace p4 := (hb.cell (p := ⟨gB, 4, none⟩) hgB).trans P.out.2.2.2.2; clear hb6)
        | fail)
      all_goals
        go_wp2_with (fail)
        go_ret
        exact ⟨rfl, HB5.out.trans (hb.mono HB5.out.size)⟩
end Go.Proofs.Ytidfnajbanjnaaa
