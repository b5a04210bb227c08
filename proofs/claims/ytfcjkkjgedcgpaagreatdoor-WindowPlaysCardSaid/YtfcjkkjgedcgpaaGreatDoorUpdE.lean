/- pick: those of which a function tells true, in new memory. -/
import Derived.Test.YtfcjkkjgedcgpaaGreatDoorUpdD
namespace Go.Proofs.YtfcjkkjgedcgpaaGreatDoor
open Go.RowKit
set_option linter.unusedSimpArgs false
set_option linter.unusedVariables false
set_option maxHeartbeats 4000000
attribute [local go_sem] Up.agg Up.cells

theorem upInfo : (Tryz.prog.info? 29).map (fun i => (i.zero, i.size, i.bytes)) = some (some (.agg #[.int .u64 0, .int .i64 0, .int .u64 0, .int .i64 0, .int .u32 0, .int .u64 0, .slice none 0 0]), 7, 72) := by kernel_rfl
theorem up_one (u : Up) : ∀ v ∈ u.row, v.oneCell' = true := by
  intro v hv; simp [Up.row] at hv; rcases hv with rfl | rfl | rfl | rfl | rfl | rfl | rfl <;> rfl
/-- an update whose bytes lie in memory of the call's own -/
def UpOwn (w : World) (base : Nat) (u : Up) : Prop := w.ownsRow base 5 1 (.slice u.A u.n u.c) u.n (u.bs.map (Value.int .u8)) ∧ u.wf
theorem UpOwn.in_ {w : World} {base : Nat} {u : Up} (h : UpOwn w base u) : UpIn w w.heap.size u := by
  obtain ⟨A, c, hv, hr, hn, hm⟩ := own_slice h.1
  injection hv with h1 h2 h3
  subst h1 h3
  exact ⟨hr, hn, hm, h.2⟩
theorem own_ne_own {w : World} {b1 b2 : Nat} {e1 e2 : TypeId} {s1 s2 n1 n2 : Nat} {v1 v2 : Value} {x1 x2 : List Value} (h1 : w.ownsRow b1 e1 s1 v1 n1 x1) (h2 : w.ownsRow b2 e2 s2 v2 n2 x2) (hne : e1 ≠ e2) (k : Nat) (hk1 : v1.ownBlock = some k) (hk2 : v2.ownBlock = some k) : False := by
  rcases h2.2 with ⟨rfl, _⟩ | ⟨g', cap, cur, rfl, _, hh, _⟩
  · simp [Value.ownBlock] at hk2
  · have : g' = k := by simpa [Value.ownBlock] using hk2
    subst this
    exact own_blk_ne h1 (show Blk w g' e2 cur from hh) hne hk1
structure PickAt {σ : Type} (J : σ → World → Prop) (S : Nat → Prop) (s : σ) (r : List Up) (w : World) (v : Value) (o : List Up) (W : World) : Prop where
  own : W.ownsRow w.heap.size 29 7 v o.length (o.flatMap Up.row)
  dat : ∀ u ∈ o, UpOwn W w.heap.size u
  val : o.map Up.val = r.map Up.val
  st : J s W
  chg : Chg w W S
section
variable {σ : Type} {J : σ → World → Prop} {S : Nat → Prop} {s s' : σ} {r : List Up} {w W W' : World} {v : Value} {o : List Up}
theorem PickAt.step (h : PickAt J S s r w v o W) (hc : Chg W W' S) (hj : J s' W') (hS : ∀ k, S k → k < w.heap.size) : PickAt J S s' r w v o W' := by
  refine ⟨hc.own h.own (fun k hk hs => ?_), fun u hu => ⟨hc.own (h.dat u hu).1 (fun k hk hs => ?_), (h.dat u hu).2⟩, h.val, hj, h.chg.trans hc (fun _ _ x => x)⟩
  · have := (h.own.lt k hk).1; have := hS k hs; omega
  · have := ((h.dat u hu).1.lt k hk).1; have := hS k hs; omega
theorem own_mono {w : World} {base base' : Nat} {e : TypeId} {size : Nat} {v : Value} {n : Nat} {xs : List Value} (h : w.ownsRow base e size v n xs) (hb : base' ≤ base) : w.ownsRow base' e size v n xs := by
  refine ⟨h.1, ?_⟩
  rcases h.2 with h0 | ⟨g, cap, cur, hv, hg, hr⟩
  · exact .inl h0
  · exact .inr ⟨g, cap, cur, hv, by omega, hr⟩
theorem PickAt.below (h : PickAt J S s r w v o W) (hb : Below W.heap.size W W') (hJ : ∀ s W W', J s W → Below w.heap.size W W' → J s W') (hS : ∀ k, S k → k < w.heap.size) : PickAt J S s r w v o W' :=
  h.step (Chg.of_below hb S) (hJ _ _ _ h.st (hb.mono h.chg.size)) hS
theorem PickAt.set {W3 : World} {s3 : σ} {r3 : List Up} {p : Addr} (h : PickAt J S s r w v o W) (h3 : PickAt J S s3 r3 w v o W3) (hp : W.heap.size ≤ p.block) (x : Value) (hJ : ∀ s W W', J s W → Below w.heap.size W W' → J s W') :
    PickAt J S s3 r3 w v o (W3.setCell p x) := by
  have hw : w.heap.size ≤ p.block := Nat.le_trans h.chg.size hp
  have hb : Below w.heap.size W3 (W3.setCell p x) := (Below.refl _ _).setCell hw x
  refine ⟨own_block_same h3.own (fun k hk => Below.heap_setCell _ _ _ k ?_), fun u hu => ⟨own_block_same (h3.dat u hu).1 (fun k hk => Below.heap_setCell _ _ _ k ?_), (h3.dat u hu).2⟩, h3.val, hJ _ _ _ h3.st hb, h3.chg.trans ⟨hb.os, hb.tape, hb.output, by simp [World.setCell], fun k hk hn => Below.heap_setCell _ _ _ k ?_⟩ (fun k hk (hs : S k ∨ k = p.block) => ?_)⟩
  · have := (h.own.lt k hk).2; omega
  · have := ((h.dat u hu).1.lt k hk).2; omega
  · exact fun e => hn (.inr e)
  · rcases hs with hs | hs
    · exact hs
    · omega
theorem PickAt.app {W6 : World} {v' : Value} {u u' : Up} (h : PickAt J S s r w v o W) (hu : UpOwn W w.heap.size u') (he : u'.val = u.val) (hJ : ∀ s W W', J s W → Below w.heap.size W W' → J s W')
    (hown : W6.ownsRow w.heap.size 29 7 v' (o.length + 1) (o.flatMap Up.row ++ u'.row)) (hg : W.grownBy W6 v.ownBlock) : PickAt J S s (r ++ [u]) w v' (o ++ [u']) W6 := by
  have hbl : ∀ k, v.ownBlock = some k → w.heap.size ≤ k := fun k hk => (h.own.lt k hk).1
  have hb : Below w.heap.size W W6 := (Below.refl _ _).grown hg h.chg.size hbl
  have hd : ∀ x : Up, UpOwn W w.heap.size x → UpOwn W6 w.heap.size x := fun x hx => ⟨own_block_same hx.1 (fun k hk => hg.block k (hx.1.lt k hk).2 (fun e => own_ne_own h.own hx.1 (by decide) k e.symm hk)), hx.2⟩
  refine ⟨by simpa [List.flatMap_append] using hown, fun x hx => ?_, by simp [h.val, he], hJ _ _ _ h.st hb, h.chg.trans (Chg.of_grown hg) (fun k hk (e : some k = v.ownBlock) => ?_)⟩
  · rw [List.mem_append] at hx
    rcases hx with hx | hx
    · exact hd x (h.dat x hx)
    · simp at hx; subst hx; exact hd _ hu
  · have := hbl k e.symm; omega
theorem up_cells {g : Nat} {t : TypeId} {u : Up} (h : Blk w g t u.cells) : w.cell? ⟨g, 0, none⟩ = some (.int .u64 u.seq) ∧ w.cell? ⟨g, 1, none⟩ = some (.int .i64 u.cl) ∧ w.cell? ⟨g, 2, none⟩ = some (.int .u64 u.num) ∧
    w.cell? ⟨g, 3, none⟩ = some (.int .i64 u.kd) ∧ w.cell? ⟨g, 4, none⟩ = some (.int .u32 u.key) ∧ w.cell? ⟨g, 5, none⟩ = some (.int .u64 u.ver) ∧ w.cell? ⟨g, 6, none⟩ = some (.slice u.A u.n u.c) :=
  ⟨h.cell 0, h.cell 1, h.cell 2, h.cell 3, h.cell 4, h.cell 5, h.cell 6⟩
end
theorem pick_any {σ : Type} (step : σ → Up → Bool × σ) (fid : Nat) (hent : ∀ (args : Array Value) (w : World), (callFunc fid args).run Tryz.prog w = .ok (.enter fid args) w) (caps : Array Value) (J : σ → World → Prop) (S : Nat → Prop) (s0 : σ) (A : Option Addr) (n c B : Nat) (l : List Up) (w : World)
    (hl : ∀ W, Chg w W S → UpsIn W B A n l) (hB : B ≤ w.heap.size) (hn : n ≤ 1000000) (hds : ∀ u ∈ l, u.n ≤ 1000000) (hS : ∀ k, S k → k < w.heap.size)
    (hJ : ∀ s W W', J s W → Below w.heap.size W W' → J s W') (h0 : J s0 w)
    (hcl : ∀ (s : σ) (u : Up) (W : World), J s W → u.wf → Calls Tryz.prog fid (#[u.agg] ++ caps) W fun e W' => e = .returned (.bool (step s u).1) ∧ J (step s u).2 W' ∧ Chg W W' S) :
    Calls Tryz.prog 33 #[.slice A n c, .func (.func fid) #[] caps] w fun e w' => ∃ v o, e = .returned v ∧ PickAt J S (pickS step s0 l) (pickL step s0 l) w v o w' := by
  obtain ⟨i0, hi, hz0, hz1, hz2⟩ := info_parts upInfo
  have HL := Lib.hid hl
  have HCL := Lib.hid hcl
  have HJ := Lib.hid hJ
  have HS := Lib.hid hS
  have hlen : Hid (l.length = n) := Lib.hid (hl w (Chg.refl _ _)).len
  have HD := Lib.hid hds
  have HP0 : Hid (PickAt J S (pickS step s0 (l.take 0)) (pickL step s0 (l.take 0)) w (.slice none 0 0) [] w) := Lib.hid ⟨World.ownsRow_nil _ _ _ _, by simp, rfl, h0, Chg.refl _ _⟩
  clear hl hcl hJ hS hds h0
  go_enter Tryz.func33, Tryz.ntmps33
  go_wp2
  go_loopw [5, 7, 10] (fun va _ ia wr => ∃ (k : Nat) (o : List Up), k ≤ n ∧ o.length ≤ k ∧ ia = .int .i64 k ∧ Hid (PickAt J S (pickS step s0 (l.take k)) (pickL step s0 (l.take k)) w va o wr)) (fun _ _ ia _ => n - (intOf ia).toNat)
  case atStart => exact ⟨0, [], by omega, by simp, rfl, HP0⟩
  case round =>
    clear HP0
    obtain ⟨k, o, hk, hok, rfl, HP⟩ := hrel
    by_cases hlt : k < n
    · have hin := HL.out wr HP.out.chg
      obtain ⟨b, off, u, rfl, hb, hu, hui, c0, c1, c2, c3, c4, c5, c6⟩ := hin.at_ hlt
      have hlt' : (k : Int) < n := by omega
      have HU := Lib.hid hu
      have hwf := hui.wf
      have C := HCL.out (pickS step s0 (l.take k)) u (wr.alloc (.cells u.cells 29)) (HJ.out _ _ _ HP.out.st ((Below.refl _ _).alloc HP.out.chg.size _)) hwf
      clear hu hui
      go_wp2_with (fail)
      refine C.mono ?_
      rintro e w2 ⟨rfl, hj2, hc2⟩
      clear C
      have HPa := Lib.hid (HP.out.below ((Below.refl wr.heap.size wr).alloc (Nat.le_refl _) (.cells u.cells 29)) HJ.out HS.out)
      have HP2 := Lib.hid (HPa.out.step hc2 hj2 HS.out)
      have hgu : ¬ S wr.heap.size := fun h => by have := HS.out _ h; have := HP.out.chg.size; omega
      have HBU := Lib.hid (hc2.blk (Blk.new wr 29 u.cells) hgu)
      have hwl : w.heap.size ≤ wr.heap.size := HP.out.chg.size
      clear c0 c1 c2 c3 c4 c5 c6 hj2 hc2 hgu HPa
      have HT := Lib.hid (pickL_take step s0 HU.out)
      have HTS := Lib.hid (pickS_take step s0 HU.out)
      generalize pickS step s0 (l.take k) = sk at *
      generalize step sk u = q at *
      obtain ⟨bb, sk'⟩ := q
      cases bb
      · go_wp2_with (fail)
        go_roundw
        case rel => exact ⟨k + 1, o, by omega, by omega, by go_num, Lib.hid (by rw [HTS.out, HT.out]; simpa using HP2.out)⟩
        case measure => simp [intOf]; omega
      · have hui := (HL.out w2 HP2.out.chg).mem u (List.mem_of_getElem? HU.out)
        have hRD := Lib.hid hui.rd
        have hun := HD.out u (List.mem_of_getElem? HU.out)
        have hB2 : B ≤ w2.heap.size := Nat.le_trans hB HP2.out.chg.size
        clear hui
        obtain ⟨d0, d1, d2, d3, d4, d5, d6⟩ := up_cells HBU.out
        go_wp2_with (fail)
        refine (bclone_any u.A u.n u.c B u.bs _ hB2 hRD.out (by omega)).mono ?_
        rintro e w3 ⟨v3, rfl, h1, h2⟩
        obtain ⟨A3, cc3, rfl, _, _, _⟩ := own_slice h1
        have HO3 := Lib.hid h1
        have HP3 := Lib.hid (HP2.out.below h2 HJ.out HS.out)
        have HBU3 := Lib.hid (HBU.out.below h2 HBU.out.lt)
        have hs2 : wr.heap.size < w2.heap.size := HBU.out.lt
        clear h1 h2 d0 d1 d2 d3 d4 d5 d6
        obtain ⟨d0, d1, d2, d3, d4, d5, d6⟩ := up_cells HBU3.out
        have df := HBU3.out.frozen 6
        have HP4 := Lib.hid (HP.out.set (p := ⟨wr.heap.size, 6, none⟩) HP3.out (Nat.le_refl _) (.slice A3 u.n cc3) HJ.out)
        have HO5 := Lib.hid (HP4.out.below ((Below.refl _ _).alloc (Nat.le_refl _) (.cells (Up.cells { u with A := A3, c := cc3 }) 29)) HJ.out HS.out)
        have hob : o.length ≤ 1000000 := by omega
        go_wp2_with (at_builtin; go_must (refine wpList_append_own _ rfl (.tmp 21) (.tmp 23) _ rfl w.heap.size 29 i0 _ 7 72 Tryz.underlying36 hi hz0 hz1 hz2 rfl (by omega) _ _ _ rfl HO5.out.own ⟨w3.heap.size, 0, none⟩ 1 1 (Up.row { u with A := A3, c := cc3 }) rfl rfl ?c1 ?c2 ?c3 ?c4 ?c5 ?_))
        case c1 => exact fun j x hx => cells_new_at _ _ _ _ (by simp [World.setCell]) j x hx
        case c2 => exact up_one { u with A := A3, c := cc3 }
        case c3 => unfold maxLen; omega
        case c4 => omega
        case c5 => exact HO5.out.chg.size
        intro v7 w7 hown hg hat
        have hu5 : UpOwn ((w3.setCell ⟨wr.heap.size, 6, none⟩ (.slice A3 u.n cc3)).alloc (.cells (Up.cells { u with A := A3, c := cc3 }) 29)) w.heap.size { u with A := A3, c := cc3 } := by
          refine ⟨?_, ⟨hwf.seq, hwf.cl, hwf.num, hwf.kd, hwf.key, hwf.ver, hwf.bs⟩⟩
          have h1 := own_mono HO3.out (base' := w.heap.size) (by omega)
          have h2 : (w3.setCell ⟨wr.heap.size, 6, none⟩ (.slice A3 u.n cc3)).ownsRow w.heap.size 5 1 (.slice A3 u.n cc3) u.n (u.bs.map (Value.int .u8)) :=
            own_block_same h1 (fun k hk => Below.heap_setCell _ _ _ k (by have := (HO3.out.lt k hk).1; simp; omega))
          exact h2.alloc _
        have HP7 := Lib.hid (HO5.out.app hu5 (show Up.val { u with A := A3, c := cc3 } = u.val from rfl) HJ.out hown hg)
        clear hown hg hat hu5 d0 d1 d2 d3 d4 d5 d6 df HO5 HP4 HO3
        obtain ⟨A7, c7, rfl, _, _, _⟩ := own_slice HP7.out.own
        go_wp2_with (fail)
        go_roundw
        case rel => exact ⟨k + 1, o ++ [{ u with A := A3, c := cc3 }], by omega, by simp; omega, by go_num, Lib.hid (by rw [HTS.out, HT.out]; simpa using HP7.out)⟩
        case measure => simp [intOf]; omega
    · obtain rfl : k = n := by omega
      go_wp2
      go_ret
      have := HP.out
      rw [List.take_of_length_le (by rw [hlen.out]; exact Nat.le_refl _)] at this
      exact ⟨_, _, rfl, this⟩
end Go.Proofs.YtfcjkkjgedcgpaaGreatDoor
