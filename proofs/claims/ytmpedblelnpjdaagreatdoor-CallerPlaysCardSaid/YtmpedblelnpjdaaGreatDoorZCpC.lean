import Derived.Test.YtmpedblelnpjdaaGreatDoorZCpA
import Derived.Test.YtmpedblelnpjdaaGreatDoorZTq
section
/- What a change of the law's box of the document's caller leaves as it was (printed by cpbgen.py). -/
namespace Go.Proofs.YtmpedblelnpjdaaGreatDoor
open Go.RowKit
set_option linter.unusedSimpArgs false
set_option linter.unusedVariables false
set_option maxHeartbeats 1000000
set_option maxRecDepth 100000
theorem dc_size (c : Cl) (d : DA) : (c.dcells d).size = 18 := rfl
theorem dc_noBool (c : Cl) (d : DA) : noBool (c.dcells d) := by
 intro j b
 exact rp74
theorem dc_noU8 (c : Cl) (d : DA) (j : Nat) (z : Int) : (c.dcells d)[j]? ≠ some (.int .u8 z) := by
 exact rp74
theorem dc_noUp (c : Cl) (d : DA) (j : Nat) (x0 x1 x2 x3 : Int) (h0 : (c.dcells d)[j]? = some (.int .u64 x0)) (h1 : (c.dcells d)[j + 1]? = some (.int .i64 x1)) (h2 : (c.dcells d)[j + 2]? = some (.int .u64 x2)) (h3 : (c.dcells d)[j + 3]? = some (.int .i64 x3)) : False := by
 unfold Cl.dcells at h0 h1 h2 h3
 match j, h0, h1, h2, h3 with
 | 0, h0, h1, h2, h3 => first | (simp at h0; done) | (simp at h1; done) | (simp at h2; done) | (simp at h3; done)
 | 1, h0, h1, h2, h3 => first | (simp at h0; done) | (simp at h1; done) | (simp at h2; done) | (simp at h3; done)
 | 2, h0, h1, h2, h3 => first | (simp at h0; done) | (simp at h1; done) | (simp at h2; done) | (simp at h3; done)
 | 3, h0, h1, h2, h3 => first | (simp at h0; done) | (simp at h1; done) | (simp at h2; done) | (simp at h3; done)
 | 4, h0, h1, h2, h3 => first | (simp at h0; done) | (simp at h1; done) | (simp at h2; done) | (simp at h3; done)
 | 5, h0, h1, h2, h3 => first | (simp at h0; done) | (simp at h1; done) | (simp at h2; done) | (simp at h3; done)
 | 6, h0, h1, h2, h3 => first | (simp at h0; done) | (simp at h1; done) | (simp at h2; done) | (simp at h3; done)
 | 7, h0, h1, h2, h3 => first | (simp at h0; done) | (simp at h1; done) | (simp at h2; done) | (simp at h3; done)
 | 8, h0, h1, h2, h3 => first | (simp at h0; done) | (simp at h1; done) | (simp at h2; done) | (simp at h3; done)
 | 9, h0, h1, h2, h3 => first | (simp at h0; done) | (simp at h1; done) | (simp at h2; done) | (simp at h3; done)
 | 10, h0, h1, h2, h3 => first | (simp at h0; done) | (simp at h1; done) | (simp at h2; done) | (simp at h3; done)
 | 11, h0, h1, h2, h3 => first | (simp at h0; done) | (simp at h1; done) | (simp at h2; done) | (simp at h3; done)
 | 12, h0, h1, h2, h3 => first | (simp at h0; done) | (simp at h1; done) | (simp at h2; done) | (simp at h3; done)
 | 13, h0, h1, h2, h3 => first | (simp at h0; done) | (simp at h1; done) | (simp at h2; done) | (simp at h3; done)
 | 14, h0, h1, h2, h3 => first | (simp at h0; done) | (simp at h1; done) | (simp at h2; done) | (simp at h3; done)
 | 15, h0, h1, h2, h3 => first | (simp at h0; done) | (simp at h1; done) | (simp at h2; done) | (simp at h3; done)
 | 16, h0, h1, h2, h3 => first | (simp at h0; done) | (simp at h1; done) | (simp at h2; done) | (simp at h3; done)
 | 17, h0, h1, h2, h3 => first | (simp at h0; done) | (simp at h1; done) | (simp at h2; done) | (simp at h3; done)
 | n + 18, h0, h1, h2, h3 => simp at h0
theorem lts_row {w W : World} {B n gr : Nat} {A : Option Addr} {xs : List LV} {N : Cl} {d : DA} (h : LtsIn w B A n xs) (hB : B ≤ w.heap.size) (hz : ∀ x ∈ xs, x.ns = [] ∧ x.vs = []) (hg : Blk w gr 62 (N.dcells d)) (hc : Chg w W (fun i => i = gr)) : LtsIn W B A n xs := by
 have bytes : ∀ {A : Option Addr} {n : Nat} {zs : List Int}, Reads w B 1 A n (zs.map (Value.int .u8)) → Reads W B 1 A n (zs.map (Value.int .u8)) := by
  intro A n zs hr
  refine hc.reads hr hB (fun ad hn hA e => ?_)
  rw [List.map_eq_flatMap] at hr
  obtain ⟨b, off, z, hA2, hb, hz, hcl⟩ := reads_at (s := 1) (fun z : Int => [Value.int .u8 z]) (fun _ => rfl) (by omega) hr hn
  rw [hA] at hA2
  injection hA2 with hA2
  subst hA2
  have e : b = gr := e
  subst e
  have h3 := hcl 0 _ rfl
  rw [hg.cell] at h3
  exact dc_noU8 _ _ _ _ h3
 refine ⟨hc.reads h.rd hB (fun ad hn hA e => ?_), fun x hx => ⟨?_, (h.mem x hx).2⟩⟩
 ·obtain ⟨b, off, x, hA2, hb, hx, hl, hnr, hcl⟩ := h.at_ (k := 0) hn
  rw [hA] at hA2
  injection hA2 with hA2
  subst hA2
  have e : b = gr := e
  subst e
  have h3 := hcl 24 _ rfl
  rw [hg.cell] at h3
  have h4 := (Array.getElem?_eq_some_iff.1 h3).1
  rw [dc_size] at h4
  omega
 ·obtain ⟨hx1, hx2⟩ := h.mem x hx
  obtain ⟨z1, z2⟩ := hz x hx
  have e1 := hx1.nl
  have e2 := hx1.vl
  rw [z1] at e1
  rw [z2] at e2
  simp only [List.length_nil] at e1 e2
  refine ⟨⟨hx1.nd.1, fun hn => absurd hn (by omega)⟩, ⟨hx1.vt.1, fun hn => absurd hn (by omega)⟩, ⟨hc.reads hx1.up.rd hB (fun ad hn hA e => ?_), fun u hu => ?_⟩, bytes hx1.da, hx1.by_, hx1.wf, hx1.vw, hx1.nw, hx1.cf, hx1.cv, hx1.cu, hx1.cd⟩
  ·obtain ⟨b, off, u, hA2, hb, hu, hui, c0, c1, c2, c3, c4⟩ := hx1.up.at_ (k := 0) hn
   rw [hA] at hA2
   injection hA2 with hA2
   subst hA2
   have e : b = gr := e
   subst e
   rw [hg.cell] at c0 c1 c2 c3
   exact dc_noUp _ _ _ _ _ _ _ c0 c1 c2 c3
  ·obtain ⟨h1, h2, h3, h4⟩ := hx1.up.mem u hu
   exact ⟨bytes h1, h2, h3, h4⟩
theorem PSt.chgR {W W' : World} {lo g G q hh cB h gr : Nat} {vs : List CV} {N c : Cl} {cs : Array Value} (a : PSt W lo g G q hh cB h vs N c) (hb : Blk W gr 62 cs) (hc : Chg W W' (fun i => i = gr)) : PSt W' lo g G q hh cB h vs N c := by
 have ne : ∀ {k : Nat} {t : TypeId} {ds : Array Value}, Blk W k t ds → t ≠ 62 → ¬ k = gr := fun hk ht e => Blk.ne_ hk hb ht e
 have S1 : ∀ k, k = gr → ∃ t cs, Blk W k t cs ∧ t ≠ 5 := fun k e => by subst e; exact ⟨_, _, hb, by decide⟩
 have S2 : ∀ k, k = gr → ∃ t cs, Blk W k t cs ∧ t ≠ 258 ∧ t ≠ 33 ∧ t ≠ 312 ∧ t ≠ 3 := fun k e => by subst e; exact ⟨_, _, hb, by decide, by decide, by decide, by decide⟩
 have p := a.cal
 obtain ⟨o, h1, h2⟩ := a.atx
 exact ⟨⟨hc.blk p.box (ne p.box (by decide)), p.atl.chg hc S2, p.low, p.op.chg hc S1, p.ow, p.st, fun e => ⟨(p.lat e).1, hc.blk (p.lat e).2 (ne (p.lat e).2 (by decide))⟩, p.rp.chg hc S1, p.ly.chg hc S1, p.zr⟩, ⟨o, h1.chg hc S2, h2⟩, a.nrm⟩
theorem DSt.chgR {W W' : World} {B0 q gr : Nat} {vs : List CV} {N M : Cl} {d d' : DA} {l : List Cf} (a : DSt W B0 q vs N d l) (hb : Blk W gr 62 (M.dcells d')) (hB : B0 ≤ gr) (hc : Chg W W' (fun i => i = gr)) : DSt W' B0 q vs N d l :=
 a.chg hc (fun i hi => by subst hi; exact ⟨hB, .inr ⟨_, _, hb, dc_noBool _ _⟩⟩)
theorem asks_flat (vs : List CV) (k : Nat) (N : Cl) : ∀ v ∈ asksL vs k N, v.ns = [] ∧ v.vs = [] := by
 intro v hv
 simp only [asksL, List.mem_map] at hv
 obtain ⟨u, _, rfl⟩ := hv
 exact ⟨rfl, rfl⟩
theorem where_flat (vs : List CV) (k : Nat) (N : Cl) : ∀ v ∈ whereL vs k N, v.ns = [] ∧ v.vs = [] := by
 intro v hv
 simp only [whereL, List.mem_map] at hv
 obtain ⟨u, _, rfl⟩ := hv
 exact ⟨rfl, rfl⟩
def FlatL (vals : List LVal) : Prop := (∀ v ∈ vals, v.ns = [] ∧ v.vs = []) ∧ vals.length ≤ 2
theorem FlatL.of {vals : List LVal} (h : FlatL vals) {xs : List LV} (hx : xs.map LV.val = vals) : ∀ x ∈ xs, x.ns = [] ∧ x.vs = [] := fun x hm => h.1 x.val (by rw [← hx]; exact List.mem_map_of_mem hm)
theorem opt_len {α β : Type} (o : Option α) (f : α → β) : (o.toList.map f).length ≤ 1 := by cases o <;> simp
theorem nil_flat : FlatL [] := ⟨fun v hv => (by cases hv), by simp⟩
theorem asks_flatL (vs : List CV) (k : Nat) (N : Cl) : FlatL (asksL vs k N) := ⟨asks_flat _ _ _, by have := opt_len (vs[(chainV k vs.length).toNat]?) (askVal N); unfold asksL; omega⟩
theorem tick_flat (vs : List CV) (N : Cl) : FlatL (if N.st = 1 then asksL vs N.op.key.toNat N.ticked ++ whereL vs N.op.key.toNat N.ticked else []) := by
 split
 ·refine ⟨fun v hv => ?_, ?_⟩
  ·rcases List.mem_append.1 hv with h | h
   ·exact asks_flat _ _ _ v h
   ·exact where_flat _ _ _ v h
  ·have h1 := opt_len (vs[(chainV N.op.key.toNat vs.length).toNat]?) (askVal N.ticked)
   have h2 := opt_len (vs[(chainV N.op.key.toNat vs.length).toNat]?) (whereVal N.ticked)
   rw [List.length_append]
   unfold asksL whereL
   omega
 ·exact nil_flat
theorem begin_flat (vs : List CV) (N : Cl) (o : Opn) : FlatL (if beginE N o = 0 then asksL vs o.key.toNat (N.begun o none 0) else []) := by
 split
 ·exact asks_flatL _ _ _
 ·exact nil_flat
theorem take_flat (vs : List CV) (N : Cl) (x : LV) : FlatL (takeL vs N x) := by
 unfold takeL
 split
 ·exact asks_flatL _ _ _
 ·exact nil_flat
def Stp.cells (s : Stp) : Array Value := s.row.toArray
theorem stInfo : (Tryz.prog.info? 66).map (·.size) = some 32 := by kernel_rfl
theorem st_all (s : Stp) : s.cells.all (·.oneCell') = true := by simp [Stp.cells, Stp.row, Lt.cells, Value.oneCell']
theorem StsIn.at_ {w : World} {B n k : Nat} {A : Option Addr} {l : List Stp} (h : StsIn w B A n l) (hk : k < n) :
  ∃ b o s, A = some ⟨b, o, none⟩ ∧ b < B ∧ l[k]? = some s ∧ StIn w B s ∧ w.rangeAt b (o + k * 32) s.row := by
 obtain ⟨b, o, x, hA, hb, hx, hc⟩ := reads_at Stp.row Stp.row_len (by omega) h.rd hk
 exact ⟨b, o, x, hA, hb, hx, h.mem x (List.mem_of_getElem? hx), hc⟩
def Stp.own_ (s : Stp) (n : Nat) : Stp := { s with x := { s.x with l := { s.x.l with nu := (n : Int) } } }
theorem own_cells (s : Stp) (n : Nat) : s.cells.setIfInBounds 13 (.int .u64 (n : Int)) = (s.own_ n).cells := by
 simp [Stp.cells, Stp.row, Stp.own_, Lt.cells]
theorem own_in {w : World} {B : Nat} {s : Stp} (h : StIn w B s) (n : Nat) (hn : n ≤ 1000000) : StIn w B (s.own_ n) :=
 ⟨h.op, ⟨h.lt.nd, h.lt.vt, h.lt.up, h.lt.da, h.lt.by_, ⟨h.lt.wf.kd, h.lt.wf.fr, h.lt.wf.tw, h.lt.wf.ch, h.lt.wf.ep, h.lt.wf.bl, ⟨by show (0 : Int) ≤ n; omega, by show (n : Int) ≤ _; omega⟩, h.lt.wf.sq, h.lt.wf.dz, h.lt.wf.vr, h.lt.wf.sl, h.lt.wf.ky, h.lt.wf.cd, h.lt.wf.qk, h.lt.wf.qc, h.lt.wf.qe, h.lt.wf.qn, h.lt.wf.fc, h.lt.wf.fe, h.lt.wf.fj⟩, h.lt.vw, h.lt.nw, h.lt.cf, h.lt.cv, h.lt.cu, h.lt.cd⟩, h.kd⟩
theorem own_near {s : Stp} (h : s.x.near) (n : Nat) : (s.own_ n).x.near := ⟨h.us, h.ul, h.vl, h.dl, h.nl⟩
theorem st_lt {w : World} {g : Nat} {s : Stp} (h : Blk w g 66 s.cells) : w.rangeAt g 7 s.x.l.cells.toList := by
 intro j v hv
 have h1 := h.cell (7 + j)
 rw [h1]
 simp only [Stp.cells, Stp.row]
 simp only [List.getElem?_toArray]
 rw [List.getElem?_append_right (by simp), ← hv]
 congr 1
 simp
theorem st_op {w : World} {g : Nat} {s : Stp} (h : Blk w g 66 s.cells) : w.rangeAt g 1 [.int .i64 s.o.kd, .int .u32 s.o.key, .int .u64 s.o.ver, .slice s.o.A s.o.n s.o.c, .int .i64 s.o.pick] := by
 intro j v hv
 have h1 := h.cell (1 + j)
 rw [h1]
 match j, hv with
 | 0, hv => exact hv
 | 1, hv => exact hv
 | 2, hv => exact hv
 | 3, hv => exact hv
 | 4, hv => exact hv
 | j + 5, hv => simp at hv
end Go.Proofs.YtmpedblelnpjdaaGreatDoor

end
section
/- CallerPlays: what holds from round to round. -/
namespace Go.Proofs.YtmpedblelnpjdaaGreatDoor
open Go.RowKit
set_option linter.unusedSimpArgs false
set_option linter.unusedVariables false
set_option maxHeartbeats 1000000
set_option maxRecDepth 100000
theorem vs_start {l : List Cf} (h : allB l = true) (hz : ∀ x ∈ l, x.zs.length = x.len) (he : ∀ x ∈ l, x.ep ≤ 18446744073709551615) : (1 ≤ (l.map Cf.val).length ∧ (l.map Cf.val).length ≤ 4) ∧ VsOk (l.map Cf.val) := by
 obtain ⟨h1, h2, _⟩ := allB_iff.1 h
 refine ⟨by simpa using h1, fun v hv => ?_⟩
 obtain ⟨x, hx, rfl⟩ := List.mem_map.1 hv
 refine ⟨?_, by have := he x hx; show ((x.ep : Nat) : Int) ≤ _; omega⟩
 rw [right_of9 x (hz x hx)]
 obtain ⟨j, hj, e⟩ := List.mem_iff_getElem.1 hx
 exact (h2 j x hj (by rw [List.getElem?_eq_getElem hj, e])).2
structure PlayI (w : World) (lo g G q hh cB gr : Nat) (p0 p1 : Int) (kc : Nat) (vs : List CV) (N c : Cl) (h : Nat) (d : DA) (l : List Cf) (i : Nat) (W : World) : Prop where
 pp : PSt W lo g G q hh cB h vs N c
 dd : DSt W w.heap.size q vs N d l
 bb : Bnd vs N i
 nn : N.norm = N
 kl : N.cl = kc
 box : Blk W gr 62 (N.dcells d)
 who : Blk W w.heap.size 51 #[.int .i64 p0, .int .i64 p1]
 bel : Below w.heap.size w W
 ll : w.heap.size < lo
 gl : lo ≤ gr
section
variable {w W : World} {lo g G q hh cB gr kc h i : Nat} {p0 p1 : Int} {vs : List CV} {N c : Cl} {d : DA} {l : List Cf}
theorem PlayI.below {W' : World} (a : PlayI w lo g G q hh cB gr p0 p1 kc vs N c h d l i W) (hb : Below W.heap.size W W') : PlayI w lo g G q hh cB gr p0 p1 kc vs N c h d l i W' :=
 ⟨a.pp.below hb, a.dd.below hb, a.bb, a.nn, a.kl, a.box.below hb a.box.lt, a.who.below hb a.who.lt, a.bel.trans (hb.mono a.bel.size), a.ll, a.gl⟩
theorem PlayI.doc (a : PlayI w lo g G q hh cB gr p0 p1 kc vs N c h d l i W) {W1 : World} (hch : Chg W W1 (TP W lo q)) : DSt W1 w.heap.size q vs N d l ∧ Blk W1 gr 62 (N.dcells d) ∧ Below w.heap.size w W1 := by
 have h1 := a.ll
 have hng : ¬ TP W lo q gr := TP.ne a.box (by decide) (by decide) (by decide)
 exact ⟨a.dd.tp (by omega) hch, hch.blk a.box hng, a.bel.trans (hch.below a.bel.size (fun k hk e => by have := e.1; omega))⟩
theorem PlayI.step (a : PlayI w lo g G q hh cB gr p0 p1 kc vs N c h d l i W) {W1 W2 W3 : World} {vs' : List CV} {N' c' : Cl} {h' n3 n4 : Nat} {d' : DA} {l' : List Cf} {A3 A4 : Option Addr} {xs ys : List LV} {vals : List LVal}
  (hb : Bnd vs' N' (i + 1)) (hn : N'.norm = N') (hcl : N'.cl = N.cl) (hP : PSt W1 lo g G q hh cB h' vs' N' c') (hch : Chg W W1 (TP W lo q)) (hx : LtsIn W1 W1.heap.size A3 n3 xs) (hxv : xs.map LV.val = vals) (hf : FlatL vals)
  (hD : DSt W2 w.heap.size q vs' N' d' l') (hb2 : Below W1.heap.size W1 W2) (hy : LtsIn W2 W2.heap.size A4 n4 ys) (hyv : ys.map LV.val = vals) (hc : Chg W2 W3 (fun k => k = gr)) (hbox : Blk W3 gr 62 (N'.dcells d')) :
  PlayI w lo g G q hh cB gr p0 p1 kc vs' N' c' h' d' l' (i + 1) W3 ∧ LtsIn W3 W3.heap.size A3 n3 xs ∧ LtsIn W3 W3.heap.size A4 n4 ys ∧ xs.map LV.val = ys.map LV.val ∧ n3 = n4 ∧ n3 ≤ 2 := by
 obtain ⟨_, hg1, hbel1⟩ := a.doc hch
 have hlo := a.ll
 have hgl := a.gl
 have hg2 := hg1.below hb2 hg1.lt
 have hwho1 : Blk W1 w.heap.size 51 #[.int .i64 p0, .int .i64 p1] := hch.blk a.who (TP.low a.ll)
 have hwho2 := hwho1.below hb2 hwho1.lt
 have hbel2 := hbel1.trans (hb2.mono hbel1.size)
 have e1 := hx.len
 have e2 := hy.len
 have e3 : xs.length = ys.length := by
  have := congrArg List.length (hxv.trans hyv.symm)
  simpa using this
 have hx2 : LtsIn W2 W2.heap.size A3 n3 xs := (hx.below hb2).more hb2.size
 refine ⟨⟨(hP.below hb2).chgR hg2 hc, hD.chgR hg2 (by omega) hc, hb, hn, hcl.trans a.kl, hbox, hc.blk hwho2 (by omega), hbel2.trans (hc.below hbel2.size (fun k hk e => by omega)), hlo, hgl⟩, (lts_row hx2 (Nat.le_refl _) (hf.of hxv) hg2 hc).more hc.size, (lts_row hy (Nat.le_refl _) (hf.of hyv) hg2 hc).more hc.size, hxv.trans hyv.symm, by omega, ?_⟩
 have e4 := hf.2
 rw [← hxv, List.length_map] at e4
 omega
end
theorem tick_cl (N : Cl) : N.ticked.cl = N.cl := rfl
theorem begin_cl (N : Cl) (o : Opn) : (if beginE N o = 0 then N.begun o none 0 else N).cl = N.cl := by split <;> rfl
theorem take_cl (N : Cl) (x : LV) : (takeN N x).cl = N.cl := by
 unfold takeN
 split <;> rfl
end Go.Proofs.YtmpedblelnpjdaaGreatDoor

end
