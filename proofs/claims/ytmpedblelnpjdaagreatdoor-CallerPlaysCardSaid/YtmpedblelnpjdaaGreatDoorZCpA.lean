/- The law's two callers at once: as data; Tick, Begin and Take of both. -/
import Derived.Test.YtmpedblelnpjdaaGreatDoorZCalH
import Derived.Test.YtmpedblelnpjdaaGreatDoorZAsF
import Derived.Test.YtmpedblelnpjdaaGreatDoorZCpO
namespace Go.Proofs.YtmpedblelnpjdaaGreatDoor
open Go.RowKit
set_option linter.unusedSimpArgs false
set_option linter.unusedVariables false
set_option maxHeartbeats 1000000
set_option maxRecDepth 100000
def Cl.norm (c : Cl) : Cl := ⟨c.cl, c.ms, c.num, c.tk, c.op.at_ none 0, c.st, ⟨c.rp.cd, c.rp.vr, none, c.rp.n, 0⟩, c.rb, c.last, ⟨c.ly.cd, c.ly.vr, none, c.ly.n, 0⟩, c.lb⟩
theorem dcells_norm (c : Cl) (d : DA) : c.norm.dcells d = c.dcells d := rfl
theorem askVal_norm (c : Cl) (v : CV) : askVal c.norm v = askVal c v := rfl
theorem whereVal_norm (c : Cl) (v : CV) : whereVal c.norm v = whereVal c v := rfl
noncomputable def asksL (vs : List CV) (k : Nat) (N : Cl) : List LVal := (vs[(chainV k vs.length).toNat]?).toList.map (askVal N)
noncomputable def whereL (vs : List CV) (k : Nat) (N : Cl) : List LVal := (vs[(chainV k vs.length).toNat]?).toList.map (whereVal N)
theorem asks_of {vs : List CV} {k : Nat} {c N : Cl} {x : LVal} (h : AskOf vs k c x) (hn : c.norm = N) : asksL vs k N = [x] := by
 obtain ⟨v, hv, rfl⟩ := h
 subst hn
 simp [asksL, hv, askVal_norm]
theorem wheres_of {vs : List CV} {k : Nat} {c N : Cl} {x : LVal} (h : WhereOf vs k c x) (hn : c.norm = N) : whereL vs k N = [x] := by
 obtain ⟨v, hv, rfl⟩ := h
 subst hn
 simp [whereL, hv, whereVal_norm]
def noBool (cs : Array Value) : Prop := ∀ (j : Nat) (b : Bool), cs[j]? ≠ some (.bool b)
theorem lat_noBool {w : World} {h : Nat} {b : Bool} {r : Rp} (a : LatRp w h b r) : ∃ cs, Blk w h 265 cs ∧ noBool cs := by
 refine ⟨_, a, fun j c => ?_⟩
 match j with
 | 0 => simp
 | 1 => simp
 | 2 => simp
 | 3 => simp
 | 4 => simp
 | 5 => simp
 | 6 => simp
 | n + 7 => simp
theorem cells_noBool (c : Cl) (G h : Nat) : noBool (c.cells G h) := by
 intro j b
 unfold Cl.cells
 match j with
 | 0 => simp
 | 1 => simp
 | 2 => simp
 | 3 => simp
 | 4 => simp
 | 5 => simp
 | 6 => simp
 | 7 => simp
 | 8 => simp
 | 9 => simp
 | 10 => simp
 | 11 => simp
 | 12 => simp
 | 13 => simp
 | 14 => simp
 | n + 15 => simp
def TP (w : World) (lo q i : Nat) : Prop := lo ≤ i ∧ ((i = q ∧ ∃ cs, Blk w i 33 cs) ∨ ∃ t cs, Blk w i t cs ∧ noBool cs ∧ (t = 156 ∨ t = 265))
theorem TP.ne {w : World} {lo q k : Nat} {t : TypeId} {cs : Array Value} (h : Blk w k t cs) (h1 : t ≠ 33) (h2 : t ≠ 156) (h3 : t ≠ 265) : ¬ TP w lo q k := by
 rintro ⟨_, ⟨rfl, cs', hb⟩ | ⟨t', cs', hb, _, ht⟩⟩
 ·exact Blk.ne_ h hb h1 rfl
 ·rcases ht with rfl | rfl
  ·exact Blk.ne_ h hb h2 rfl
  ·exact Blk.ne_ h hb h3 rfl
theorem TP.low {w : World} {lo q k : Nat} (h : k < lo) : ¬ TP w lo q k := fun e => by have := e.1; omega
structure DSt (W : World) (B0 q : Nat) (vs : List CV) (N : Cl) (d : DA) (l : List Cf) : Prop where
 rd : Reads W W.heap.size 5 d.lA d.ln (l.flatMap Cf.row)
 mem : ∀ x ∈ l, CfIn W B0 x
 nq : ∀ ad, 0 < d.ln → d.lA = some ad → ad.block ≠ q
 lc : d.ln ≤ d.lc ∧ d.lc ≤ maxLen
 op : OpIn W B0 (N.op.at_ d.oA d.oc)
 rp : Reads W B0 1 d.rA N.rp.n (N.rb.map (Value.int .u8))
 rc : N.rp.n ≤ d.rc ∧ d.rc ≤ maxLen
 ly : Reads W B0 1 d.yA N.ly.n (N.lb.map (Value.int .u8))
 yc : N.ly.n ≤ d.yc ∧ d.yc ≤ maxLen
 val : l.map Cf.val = vs
 lo : B0 ≤ W.heap.size
section
variable {W W' : World} {B0 q : Nat} {vs : List CV} {N : Cl} {d : DA} {l : List Cf}
theorem CfIn.moreP {w : World} {B B' : Nat} {x : Cf} (h : CfIn w B x) (hb : B ≤ B') : CfIn w B' x := ⟨h.rd.more hb, h.hc, h.hm⟩
theorem DSt.din (a : DSt W B0 q vs N d l) : DIn W W.heap.size N d l := ⟨⟨a.rd, fun x hx => (a.mem x hx).moreP a.lo⟩, a.lc, a.op.more a.lo, a.rp.more a.lo, a.rc, a.ly.more a.lo, a.yc⟩
theorem DSt.ll (a : DSt W B0 q vs N d l) : l.length = vs.length := by rw [← a.val]; simp
theorem DSt.below (a : DSt W B0 q vs N d l) (hb : Below W.heap.size W W') : DSt W' B0 q vs N d l :=
 ⟨(a.rd.below hb).more hb.size, fun x hx => (a.mem x hx).below (hb.mono a.lo), a.nq, a.lc, a.op.below (hb.mono a.lo), a.rp.below (hb.mono a.lo), a.rc, a.ly.below (hb.mono a.lo), a.yc, a.val, Nat.le_trans a.lo hb.size⟩
theorem row_ne {n B k : Nat} {A : Option Addr} {t : TypeId} {cs : Array Value} {l : List Cf} (h : CfsIn W B A n l) (hk : Blk W k t cs) (hc : noBool cs) (ad : Addr) (hn : 0 < n) (hA : A = some ad) : ad.block ≠ k := by
 obtain ⟨b, off, y, hA2, _, _, _, q0, q1, q2, q3, q4⟩ := h.at_ (k := 0) hn
 rw [hA] at hA2
 injection hA2 with hA2
 subst hA2
 intro e
 have e : b = k := e
 subst e
 have h3 := hk.cell (off + 0 * 5 + 3)
 rw [q3] at h3
 exact hc _ _ h3.symm
theorem DSt.chg {S : Nat → Prop} (a : DSt W B0 q vs N d l) (hc : Chg W W' S) (hS : ∀ i, S i → B0 ≤ i ∧ (i = q ∨ ∃ t cs, Blk W i t cs ∧ noBool cs)) : DSt W' B0 q vs N d l := by
 have hb : Below B0 W W' := hc.below a.lo (fun k hk e => by have := (hS k e).1; omega)
 refine ⟨(hc.reads a.rd (Nat.le_refl _) (fun ad h0 hA e => ?_)).more hc.size, fun x hx => (a.mem x hx).below hb, a.nq, a.lc, a.op.below hb, a.rp.below hb, a.rc, a.ly.below hb, a.yc, a.val, Nat.le_trans a.lo hc.size⟩
 obtain ⟨_, hq | ⟨t, cs, hk, hnb⟩⟩ := hS _ e
 ·exact a.nq ad h0 hA hq
 ·exact row_ne a.din.cf hk hnb ad h0 hA rfl
theorem DSt.tp {lo : Nat} (a : DSt W B0 q vs N d l) (hlo : B0 ≤ lo) (hc : Chg W W' (TP W lo q)) : DSt W' B0 q vs N d l := by
 refine a.chg hc (fun i hi => ⟨Nat.le_trans hlo hi.1, ?_⟩)
 rcases hi.2 with ⟨h, _⟩ | ⟨t, cs, hb, hn, _⟩
 ·exact .inl h
 ·exact .inr ⟨t, cs, hb, hn⟩
end
structure PSt (W : World) (lo g G q hh cB h : Nat) (vs : List CV) (N c : Cl) : Prop where
 cal : CalAt W lo g G h vs c
 atx : ∃ o, AtX W lo G q hh cB o ∧ o.map Cf.val = vs
 nrm : c.norm = N
theorem PSt.below {W W' : World} {lo g G q hh cB h : Nat} {vs : List CV} {N c : Cl} (a : PSt W lo g G q hh cB h vs N c) (hb : Below W.heap.size W W') : PSt W' lo g G q hh cB h vs N c := by
 obtain ⟨o, h1, h2⟩ := a.atx
 exact ⟨a.cal.below hb, ⟨o, h1.below hb, h2⟩, a.nrm⟩
structure Bnd (vs : List CV) (N : Cl) (i : Nat) : Prop where
 l1 : 1 ≤ vs.length
 l4 : vs.length ≤ 4
 ok : VsOk vs
 cl : N.cl ≤ 6
 ms : 1 ≤ N.ms ∧ N.ms ≤ 5
 num : N.num ≤ i
 on : N.op.n ≤ 1000000
 rn : N.rp.n ≤ 1000000
 yn : N.ly.n ≤ 1000000
def PPost (lo g G q hh cB : Nat) (vs : List CV) (N : Cl) (vals : List LVal) (f : Value → Value) (w : World) (e : Ending) (w' : World) : Prop :=
 ∃ (c : Cl) (h : Nat) (A : Option Addr) (n cp : Nat) (xs : List LV), e = .returned (f (.slice A n cp)) ∧ PSt w' lo g G q hh cB h vs N c ∧ LtsIn w' w'.heap.size A n xs ∧ xs.map LV.val = vals ∧ Chg w w' (TP w lo q)
def DPost (B0 q : Nat) (vs : List CV) (N : Cl) (vals : List LVal) (f : Value → Value → Value) (w : World) (e : Ending) (w' : World) : Prop :=
 ∃ (d : DA) (l : List Cf) (A : Option Addr) (n cp : Nat) (xs : List LV), e = .returned (f (.agg (N.dcells d)) (.slice A n cp)) ∧ DSt w' B0 q vs N d l ∧ LtsIn w' w'.heap.size A n xs ∧ xs.map LV.val = vals ∧ Below w.heap.size w w'
theorem lts_one {w : World} {q : Nat} {x : LV} (hb : Blk w q 37 x.l.cells) (h : LIn w q x) (hn : x.near) : LtsIn w w.heap.size (some ⟨q, 0, none⟩) 1 [x] := by
 refine ⟨⟨rfl, fun _ => ⟨_, rfl, hb.lt, fun j u hu => ?_⟩⟩, fun y hy => ?_⟩
 ·simp only [List.flatMap_cons, List.flatMap_nil, List.append_nil, lrow, Array.getElem?_toList] at hu
  rw [Addr.add_mid, Nat.zero_add, hb.cell j]
  exact hu
 ·simp at hy
  subst hy
  exact ⟨h.more (Nat.le_of_lt hb.lt), hn⟩
theorem kinds_at {W W' : World} {S : Nat → Prop} (h : KindsAt W) (hc : Chg W W' S) (h0 : ¬ S 0) : KindsAt W' := ⟨fun k j hk hj => (hc.cell (p := ⟨0, k * 7 + 1 + j, none⟩) h.lt h0).trans (h.cell k j hk hj)⟩
section
variable {W W' : World} {lo g G q hh cB h : Nat} {vs : List CV} {N c : Cl}
theorem PSt.tpg (a : PSt W lo g G q hh cB h vs N c) : TP W lo q g := ⟨a.cal.low, .inr ⟨_, _, a.cal.box, cells_noBool _ _ _, .inl rfl⟩⟩
theorem PSt.tpq (a : PSt W lo g G q hh cB h vs N c) : TP W lo q q := by
 obtain ⟨o, h1, h2⟩ := a.atx
 exact ⟨by have := h1.b0; have := h1.lt; omega, .inl ⟨rfl, _, h1.conf⟩⟩
theorem PSt.tph (a : PSt W lo g G q hh cB h vs N c) (hs : c.st ≠ 0) : TP W lo q h := by
 obtain ⟨cs, hb, hn⟩ := lat_noBool (a.cal.lat hs).2
 exact ⟨(a.cal.lat hs).1, .inr ⟨_, _, hb, hn, .inr rfl⟩⟩
theorem PSt.atG (a : PSt W lo g G q hh cB h vs N c) (hc : Chg W W' (fun i => i = g)) : ∃ o, AtX W' lo G q hh cB o ∧ o.map Cf.val = vs := by
 obtain ⟨o, h1, h2⟩ := a.atx
 refine ⟨o, h1.chg hc (fun k hk => ?_), h2⟩
 subst hk
 exact ⟨_, _, a.cal.box, by decide, by decide, by decide, by decide⟩
theorem PSt.atH (a : PSt W lo g G q hh cB h vs N c) (hc : Chg W W' (fun i => i = g ∨ (c.st = 1 ∧ i = h))) : ∃ o, AtX W' lo G q hh cB o ∧ o.map Cf.val = vs := by
 obtain ⟨o, h1, h2⟩ := a.atx
 refine ⟨o, h1.chg hc (fun k hk => ?_), h2⟩
 rcases hk with rfl | ⟨hs, rfl⟩
 ·exact ⟨_, _, a.cal.box, by decide, by decide, by decide, by decide⟩
 ·exact ⟨_, _, (a.cal.lat (by omega)).2, by decide, by decide, by decide, by decide⟩
end
section
variable {lo g G q hh cB h i B0 : Nat} {vs : List CV} {N c : Cl}
theorem tick_p (b : Bnd vs N i) (hi : i ≤ 60) (w : World) (hK : KindsAt w) (a : PSt w lo g G q hh cB h vs N c) (h0 : 0 < lo) :
  Calls Tryz.prog 21 #[.pointer (some ⟨g, 0, none⟩)] w (PPost lo g G q hh cB vs N.ticked (if N.st = 1 then asksL vs N.op.key.toNat N.ticked ++ whereL vs N.op.key.toNat N.ticked else []) id w) := by
 have hn := a.nrm
 subst hn
 have lg := a.cal.box.lt
 have hgl := a.cal.low
 refine (calTick2_any lo g G h vs c c.op.key.toNat w hK a.cal (by omega) (fun W hc => kinds_at hK hc (by omega)) (by have := a.cal.ow.key; omega) b.on b.cl b.ms (by have : c.num ≤ i := b.num; omega) b.ok).mono ?_
 rintro e w' ⟨hcal, hch, h1⟩
 have hP : PSt w' lo g G q hh cB h vs c.norm.ticked c.ticked := ⟨hcal, a.atG hch, rfl⟩
 have hC : Chg w w' (TP w lo q) := hch.mono (fun k _ hk => by rw [hk]; exact a.tpg)
 rcases h1 with ⟨hs, rfl⟩ | ⟨hs, A, cp, x1, x2, rfl, hl, ha, hw⟩
 ·exact ⟨c.ticked, h, none, 0, 0, [], rfl, hP, LtsIn.nil _ _ _, by rw [if_neg (show ¬ c.norm.st = 1 from hs)]; rfl, hC⟩
 ·refine ⟨c.ticked, h, A, 2, cp, [x1, x2], rfl, hP, hl, ?_, hC⟩
  rw [if_pos (show c.norm.st = 1 from hs)]
  have e1 := asks_of (N := c.norm.ticked) ha rfl
  have e2 := wheres_of (N := c.norm.ticked) hw rfl
  show [x1.val, x2.val] = asksL vs c.op.key.toNat c.norm.ticked ++ whereL vs c.op.key.toNat c.norm.ticked
  rw [e1, e2]
  rfl
theorem tick_d (b : Bnd vs N i) (hi : i ≤ 60) (w : World) {d : DA} {l : List Cf} (a : DSt w B0 q vs N d l) (hn : N.norm = N) :
  Calls Tryz.prog 22 #[.agg (N.dcells d)] w (DPost B0 q vs N.ticked (if N.st = 1 then asksL vs N.op.key.toNat N.ticked ++ whereL vs N.op.key.toNat N.ticked else []) (fun x y => .tuple #[x, y]) w) := by
 have hl := a.ll
 have hv := a.val
 have l1 := b.l1
 have l4 := b.l4
 refine (dTick_any N d l N.op.key.toNat w.heap.size w a.din (Nat.le_refl _) (by have : 0 ≤ N.op.key := a.op.wf.key.1; omega) (by omega) (by omega) (by rw [hv]; exact b.ok) b.cl b.ms (by have := b.num; omega) b.on).mono ?_
 rintro e w' ⟨hb, h1⟩
 have hD := a.below hb
 have hD' : DSt w' B0 q vs N.ticked d l := ⟨hD.rd, hD.mem, hD.nq, hD.lc, hD.op, hD.rp, hD.rc, hD.ly, hD.yc, hD.val, hD.lo⟩
 rw [hv] at h1
 rcases h1 with ⟨hs, rfl⟩ | ⟨hs, A, cp, x1, x2, rfl, hl, ha, hw⟩
 ·exact ⟨d, l, none, 0, 0, [], rfl, hD', LtsIn.nil _ _ _, by rw [if_neg hs]; rfl, hb⟩
 ·refine ⟨d, l, A, 2, cp, [x1, x2], rfl, hD', hl, ?_, hb⟩
  have hn2 : N.ticked.norm = N.ticked := by
   have : N.ticked.norm = N.norm.ticked := rfl
   rw [this, hn]
  rw [if_pos hs, asks_of ha hn2, wheres_of hw hn2]
  rfl
theorem begin_p (o : Opn) (b : Bnd vs N i) (hi : i < 60) (w : World) (hK : KindsAt w) (a : PSt w lo g G q hh cB h vs N c) (h0 : 0 < lo) (ho : OpIn w B0 o) (hB : B0 ≤ w.heap.size) (hon : o.n ≤ 1000000) :
  Calls Tryz.prog 23 #[.pointer (some ⟨g, 0, none⟩), o.agg] w (PPost lo g G q hh cB vs (if beginE N o = 0 then N.begun o none 0 else N) (if beginE N o = 0 then asksL vs o.key.toNat (N.begun o none 0) else []) (fun x => .tuple #[x, .int .i64 (beginE N o)]) w) := by
 have hn := a.nrm
 subst hn
 have lg := a.cal.box.lt
 have hgl := a.cal.low
 have hbe : beginE c.norm o = beginE c o := rfl
 refine (calBegin2_any lo g G h vs c o o.key.toNat B0 w hK (fun W hc => kinds_at hK hc (by omega)) a.cal ho hB (by omega) (by have := ho.wf.key; omega) hon b.cl (by have : c.num ≤ i := b.num; omega) b.ok).mono ?_
 rw [hbe]
 rintro e w' (⟨hne, rfl, hcal, hb⟩ | ⟨he, h', A7n, qa, A7, x, rfl, hcal, hq, hbk, hin, hnr, hof, hch⟩)
 ·rw [if_neg hne, if_neg hne]
  exact ⟨c, h, none, 0, 0, [], rfl, a.below hb, LtsIn.nil _ _ _, rfl, Chg.of_below hb _⟩
 ·rw [if_pos he, if_pos he]
  exact ⟨_, h', some ⟨qa, 0, none⟩, 1, 1, [x], by rw [he], ⟨hcal, a.atG hch, rfl⟩, lts_one hbk hin hnr, (asks_of (N := c.norm.begun o none 0) hof rfl).symm, hch.mono (fun k _ hk => by rw [hk]; exact a.tpg)⟩
theorem begin_d (o : Opn) (b : Bnd vs N i) (hi : i < 60) (w : World) {d : DA} {l : List Cf} (a : DSt w B0 q vs N d l) (hn : N.norm = N) (ho : OpIn w B0 o) (hon : o.n ≤ 1000000) :
  Calls Tryz.prog 24 #[.agg (N.dcells d), o.agg] w (DPost B0 q vs (if beginE N o = 0 then N.begun o none 0 else N) (if beginE N o = 0 then asksL vs o.key.toNat (N.begun o none 0) else []) (fun x y => .tuple #[x, y, .int .i64 (beginE N o)]) w) := by
 have hl := a.ll
 have hv := a.val
 have l1 := b.l1
 have l4 := b.l4
 refine (dBegin_any N d o l o.key.toNat w.heap.size w a.din (ho.more a.lo) (Nat.le_refl _) (by have := ho.wf.key; omega) (by omega) (by omega) (by rw [hv]; exact b.ok) b.cl (by have := b.num; omega) hon).mono ?_
 rintro e w' ⟨hb, h1⟩
 have hD := a.below hb
 rw [hv] at h1
 rcases h1 with ⟨hne, rfl⟩ | ⟨he, qa, x, rfl, hq, hbk, hin, hnr, hof⟩
 ·rw [if_neg hne, if_neg hne]
  exact ⟨d, l, none, 0, 0, [], rfl, hD, LtsIn.nil _ _ _, rfl, hb⟩
 ·rw [if_pos he, if_pos he]
  have hn2 : (N.begun o none 0).norm = N.begun o none 0 := by
   have : (N.begun o none 0).norm = N.norm.begun o none 0 := rfl
   rw [this, hn]
  refine ⟨d.begun o, l, some ⟨qa, 0, none⟩, 1, 1, [x], by rw [he], ⟨hD.rd, hD.mem, hD.nq, hD.lc, ho.below (hb.mono a.lo), Reads.none_, ⟨Nat.le_refl _, Nat.zero_le _⟩, hD.ly, hD.yc, hD.val, hD.lo⟩, lts_one hbk hin hnr, (asks_of hof hn2).symm, hb⟩
noncomputable def takeVs (vs : List CV) (N : Cl) (x : LV) : List CV := by
 classical exact if ForIt N x ∧ x.l.kd = 11 then learnV vs x.conf else vs
noncomputable def takeN (N : Cl) (x : LV) : Cl := by
 classical exact if (ForIt N x ∧ x.l.kd ≠ 11) ∧ Mine N x then (N.answered (takeRp x) (takeRb x)).norm else N
noncomputable def takeL (vs : List CV) (N : Cl) (x : LV) : List LVal := by
 classical exact if (ForIt N x ∧ x.l.kd = 11) ∧ AskNow vs N.op.key.toNat N x.conf then asksL (learnV vs x.conf) N.op.key.toNat N else []
theorem take_p (x : LV) (b : Bnd vs N i) (hi : i ≤ 60) (w : World) (hK : KindsAt w) (a : PSt w lo g G q hh cB h vs N c) (h0 : 0 < lo) (hx : LIn w B0 x) (hB : B0 ≤ w.heap.size) (hnr : x.near) :
  Calls Tryz.prog 25 #[.pointer (some ⟨g, 0, none⟩), .agg x.l.cells] w (PPost lo g G q hh cB (takeVs vs N x) (takeN N x) (takeL vs N x) id w) := by
 have hn := a.nrm
 subst hn
 have lg := a.cal.box.lt
 have hgl := a.cal.low
 have same : ∀ {e : Ending} {w' : World}, CSameP lo g G h vs c w e w' → takeVs vs c.norm x = vs → takeN c.norm x = c.norm → takeL vs c.norm x = [] → PPost lo g G q hh cB (takeVs vs c.norm x) (takeN c.norm x) (takeL vs c.norm x) id w e w' := by
  rintro e w' ⟨rfl, hcal, hb⟩ h1 h2 h3
  rw [h1, h2, h3]
  exact ⟨c, h, none, 0, 0, [], rfl, a.below hb, LtsIn.nil _ _ _, rfl, Chg.of_below hb _⟩
 by_cases hf : ForIt c x
 case neg =>
  have hf' : ¬ ForIt c.norm x := hf
  refine (calTake_no lo g G h vs c x B0 w hK a.cal hx hB hnr (by omega) b.cl hf).mono fun e w' hs => same hs ?_ ?_ ?_
  ·exact if_neg (fun e => hf' e.1)
  ·exact if_neg (fun e => hf' e.1.1)
  ·exact if_neg (fun e => hf' e.1.1)
 have hf' : ForIt c.norm x := hf
 by_cases h11 : x.l.kd = 11
 ·obtain ⟨o, hax, hov⟩ := a.atx
  have hql : lo ≤ q := by have := hax.b0; have := hax.lt; omega
  refine (calTake_conf q hh cB c.op.key.toNat o lo g G h vs c x B0 w hK a.cal hx hB hnr (by omega) b.cl hax hov (fun W hc => kinds_at hK hc (by omega)) (by have := a.cal.ow.key; omega) (by have : c.num ≤ i := b.num; omega) b.on b.ok hf h11).mono ?_
  rintro e w' ⟨hcal, hat, hch, hcs⟩
  have e1 : takeVs vs c.norm x = learnV vs x.conf := if_pos ⟨hf', h11⟩
  have e2 : takeN c.norm x = c.norm := if_neg (fun e => e.1.2 h11)
  rw [e1, e2]
  have hP : PSt w' lo g G q hh cB h (learnV vs x.conf) c.norm c := ⟨hcal, hat, rfl⟩
  have hC : Chg w w' (TP w lo q) := hch.mono (fun k _ hk => by rw [hk]; exact a.tpq)
  rcases hcs with ⟨hA, qq, xx, rfl, hq, hbk, hin, hnx, hof⟩ | ⟨hA, rfl⟩
  ·have e3 : takeL vs c.norm x = asksL (learnV vs x.conf) c.op.key.toNat c.norm := if_pos ⟨⟨hf', h11⟩, hA⟩
   rw [e3]
   exact ⟨c, h, some ⟨qq, 0, none⟩, 1, 1, [xx], rfl, hP, lts_one hbk hin hnx, (asks_of hof rfl).symm, hC⟩
  ·have e3 : takeL vs c.norm x = [] := if_neg (fun e => hA e.2)
   rw [e3]
   exact ⟨c, h, none, 0, 0, [], rfl, hP, LtsIn.nil _ _ _, rfl, hC⟩
 by_cases hm : Mine c x
 ·have hm' : Mine c.norm x := hm
  obtain ⟨m1, m2, m3, m4⟩ := hm
  refine (calTake_mine lo g G h vs c x B0 w hK a.cal hx hB hnr (by omega) b.cl hf.1 hf.2 m2 m3 m4).mono ?_
  rintro e w' ⟨rfl, hy, _, hch⟩
  obtain ⟨r, rb, r1, r2, r3, r4, hcal⟩ := hy m1
  have e1 : takeVs vs c.norm x = vs := if_neg (fun e => h11 e.2)
  have e2 : takeN c.norm x = (c.norm.answered (takeRp x) (takeRb x)).norm := if_pos ⟨⟨hf', h11⟩, hm'⟩
  have e3 : takeL vs c.norm x = [] := if_neg (fun e => h11 e.1.2)
  rw [e1, e2, e3]
  have hnrm : (c.answered r rb).norm = (c.norm.answered (takeRp x) (takeRb x)).norm := by
   have hdl := hx.dl
   have g1 : rb = takeRb x := r3
   have g2 : r.cd = (takeRp x).cd := by rw [r1]; unfold takeRp; split <;> rfl
   have g3 : r.vr = (takeRp x).vr := by rw [r2]; unfold takeRp; split <;> rfl
   have g4 : r.n = (takeRp x).n := by
    rw [r4, r3]
    unfold takeRp
    split
    ·rfl
    ·exact hdl
   unfold Cl.answered Cl.norm
   simp only [g1, g2, g3, g4]
   rfl
  exact ⟨c.answered r rb, h, none, 0, 0, [], rfl, ⟨hcal, a.atH hch, hnrm⟩, LtsIn.nil _ _ _, rfl, hch.mono (fun k _ hk => by
   rcases hk with rfl | ⟨hs, rfl⟩
   ·exact a.tpg
   ·exact a.tph (by omega))⟩
 ·have hm' : ¬ Mine c.norm x := hm
  refine (calTake_other lo g G h vs c x B0 w hK a.cal hx hB hnr (by omega) b.cl hf h11 hm).mono fun e w' hs => same hs ?_ ?_ ?_
  ·exact if_neg (fun e => h11 e.2)
  ·exact if_neg (fun e => hm' e.2)
  ·exact if_neg (fun e => h11 e.1.2)
theorem take_d (x : LV) (b : Bnd vs N i) (hi : i ≤ 60) (w : World) {d : DA} {l : List Cf} (a : DSt w B0 q vs N d l) (hn : N.norm = N) (hq : q < w.heap.size) (hx : LIn w B0 x) (hnr : x.near) :
  Calls Tryz.prog 26 #[.agg (N.dcells d), .agg x.l.cells] w (DPost B0 q (takeVs vs N x) (takeN N x) (takeL vs N x) (fun x y => .tuple #[x, y]) w) := by
 have hl := a.ll
 have hv := a.val
 have l1 := b.l1
 have l4 := b.l4
 have same : ∀ {e : Ending} {w' : World}, DSameP N d w e w' → takeVs vs N x = vs → takeN N x = N → takeL vs N x = [] → DPost B0 q (takeVs vs N x) (takeN N x) (takeL vs N x) (fun x y => .tuple #[x, y]) w e w' := by
  rintro e w' ⟨hb, rfl⟩ h1 h2 h3
  rw [h1, h2, h3]
  exact ⟨d, l, none, 0, 0, [], rfl, a.below hb, LtsIn.nil _ _ _, rfl, hb⟩
 by_cases hf : ForIt N x
 case neg =>
  refine (dTake_no N d x w.heap.size w (hx.more a.lo) (Nat.le_refl _) hnr b.cl hf).mono fun e w' hs => same hs ?_ ?_ ?_
  ·exact if_neg (fun e => hf e.1)
  ·exact if_neg (fun e => hf e.1.1)
  ·exact if_neg (fun e => hf e.1.1)
 by_cases h11 : x.l.kd = 11
 ·refine (dTake_conf N d l x N.op.key.toNat w.heap.size w a.din (hx.more a.lo) (Nat.le_refl _) hnr (by have : 0 ≤ N.op.key := a.op.wf.key.1; omega) (by omega) (by omega) (by rw [hv]; exact b.ok) b.cl (by have := b.num; omega) b.on hf h11).mono ?_
  rintro e w' ⟨hb, A', c', l', hcf, hval, hc', hA', hmem, hcs⟩
  rw [hv] at hval hcs
  have hD := a.below hb
  have e1 : takeVs vs N x = learnV vs x.conf := if_pos ⟨hf, h11⟩
  have e2 : takeN N x = N := if_neg (fun e => e.1.2 h11)
  rw [e1, e2]
  have hxc : CfIn w' B0 x.conf := (hx.below (hb.mono a.lo)).conf
  have hP : DSt w' B0 q (learnV vs x.conf) N (d.learnt A' c') l' := ⟨hcf.rd, fun z hz => by
   rcases hmem z hz with h1 | rfl
   ·exact hD.mem z h1
   ·exact hxc, fun ad h1 h2 => by
   rcases hA' with h3 | ⟨gg, h3, h4⟩
   ·have h2 : A' = some ad := h2
    rw [h3] at h2
    exact a.nq ad h1 h2
   ·have h2 : A' = some ad := h2
    rw [h3] at h2
    injection h2 with h2
    subst h2
    show gg ≠ q
    omega, hc', hD.op, hD.rp, hD.rc, hD.ly, hD.yc, hval, hD.lo⟩
  rcases hcs with ⟨hA, qq, xx, rfl, hq, hbk, hin, hnx, hof⟩ | ⟨hA, rfl⟩
  ·have e3 : takeL vs N x = asksL (learnV vs x.conf) N.op.key.toNat N := if_pos ⟨⟨hf, h11⟩, hA⟩
   rw [e3]
   exact ⟨_, l', some ⟨qq, 0, none⟩, 1, 1, [xx], rfl, hP, lts_one hbk hin hnx, (asks_of hof hn).symm, hb⟩
  ·have e3 : takeL vs N x = [] := if_neg (fun e => hA e.2)
   rw [e3]
   exact ⟨_, l', none, 0, 0, [], rfl, hP, LtsIn.nil _ _ _, rfl, hb⟩
 by_cases hm : Mine N x
 ·refine (dTake_mine N d x w.heap.size w (hx.more a.lo) (Nat.le_refl _) hnr b.cl hf hm).mono ?_
  rintro e w' ⟨hb, rfl⟩
  have hD := a.below hb
  have e1 : takeVs vs N x = vs := if_neg (fun e => h11 e.2)
  have e2 : takeN N x = (N.answered (takeRp x) (takeRb x)).norm := if_pos ⟨⟨hf, h11⟩, hm⟩
  have e3 : takeL vs N x = [] := if_neg (fun e => h11 e.1.2)
  rw [e1, e2, e3]
  have hx2 := hx.below (hb.mono a.lo)
  have hrd : Reads w' B0 1 (takeRp x).A (takeRp x).n ((takeRb x).map (Value.int .u8)) ∧ ((takeRp x).n ≤ (takeRp x).c ∧ (takeRp x).c ≤ maxLen) := by
   unfold takeRp takeRb
   split
   ·exact ⟨Reads.none_, Nat.le_refl _, Nat.zero_le _⟩
   ·exact ⟨hx2.da, hx2.cd⟩
  exact ⟨d.answered (takeRp x), l, none, 0, 0, [], rfl, ⟨hD.rd, hD.mem, hD.nq, hD.lc, hD.op, hrd.1, hrd.2, hrd.1, hrd.2, hD.val, hD.lo⟩, LtsIn.nil _ _ _, rfl, hb⟩
 ·refine (dTake_other N d x w.heap.size w (hx.more a.lo) (Nat.le_refl _) hnr b.cl hf h11 hm).mono fun e w' hs => same hs ?_ ?_ ?_
  ·exact if_neg (fun e => h11 e.2)
  ·exact if_neg (fun e => hm e.2)
  ·exact if_neg (fun e => h11 e.1.2)
theorem Bnd.tick (b : Bnd vs N i) : Bnd vs N.ticked (i + 1) := ⟨b.l1, b.l4, b.ok, b.cl, b.ms, by have := b.num; show N.num ≤ _; omega, b.on, b.rn, b.yn⟩
theorem Bnd.begin_ (o : Opn) (b : Bnd vs N i) (hon : o.n ≤ 1000000) : Bnd vs (if beginE N o = 0 then N.begun o none 0 else N) (i + 1) := by
 have := b.num
 split
 ·exact ⟨b.l1, b.l4, b.ok, b.cl, b.ms, by show N.num + 1 ≤ _; omega, hon, Nat.zero_le _, b.yn⟩
 ·exact ⟨b.l1, b.l4, b.ok, b.cl, b.ms, by omega, b.on, b.rn, b.yn⟩
theorem takeVs_len (x : LV) : (takeVs vs N x).length = vs.length := by
 unfold takeVs
 split
 ·exact learnV_len _ _
 ·rfl
theorem Bnd.take {w : World} (x : LV) (b : Bnd vs N i) (hx : LIn w B0 x) (hnr : x.near) : Bnd (takeVs vs N x) (takeN N x) (i + 1) := by
 have hnum := b.num
 have hvs : VsOk (takeVs vs N x) := by
  unfold takeVs
  split
  ·exact b.ok.learn (by show x.ns.length = x.l.fn; exact hx.nl) (by have := hx.wf.fe; show x.l.fe.toNat ≤ _; omega)
  ·exact b.ok
 have l := takeVs_len (vs := vs) (N := N) x
 have l1 := b.l1
 have l4 := b.l4
 have hdl := hnr.dl
 have hr : (takeRp x).n ≤ 1000000 := by
  unfold takeRp
  split
  ·exact Nat.zero_le _
  ·exact hdl
 unfold takeN
 split
 ·exact ⟨by omega, by omega, hvs, b.cl, b.ms, by show N.num ≤ _; omega, b.on, hr, hr⟩
 ·exact ⟨by omega, by omega, hvs, b.cl, b.ms, by omega, b.on, b.rn, b.yn⟩
end
theorem tick_norm {N : Cl} (h : N.norm = N) : N.ticked.norm = N.ticked := by
 have : N.ticked.norm = N.norm.ticked := rfl
 rw [this, h]
theorem begin_norm {N : Cl} (o : Opn) (h : N.norm = N) : (if beginE N o = 0 then N.begun o none 0 else N).norm = (if beginE N o = 0 then N.begun o none 0 else N) := by
 split
 ·have : (N.begun o none 0).norm = N.norm.begun o none 0 := rfl
  rw [this, h]
 ·exact h
theorem take_norm {N : Cl} (x : LV) (h : N.norm = N) : (takeN N x).norm = takeN N x := by
 unfold takeN
 split
 ·rfl
 ·exact h
end Go.Proofs.YtmpedblelnpjdaaGreatDoor
