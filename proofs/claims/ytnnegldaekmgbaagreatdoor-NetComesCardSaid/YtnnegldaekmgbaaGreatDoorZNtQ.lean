/- Take of a net's bag; Come; Lose. -/
import Derived.Test.YtnnegldaekmgbaaGreatDoorZNtP
import Derived.Test.YtnnegldaekmgbaaGreatDoorZNbD
namespace Go.Proofs.YtnnegldaekmgbaaGreatDoor
open Go.RowKit
set_option linter.unusedSimpArgs false
set_option linter.unusedVariables false
set_option maxHeartbeats 8000000
set_option maxRecDepth 100000

theorem netDecO_any {lo g cd gt bg bd : Nat} {v : Value} {s : NBg} {n : Nv} {m : Int} (A : Option Addr) (c nn : Nat) (f : List Nat) (w : World) (h : NetAt w lo g cd gt bg bd v s n m) (hlo : 0 < lo) (hK : KindsAt w) (hm : m ≤ 900000) (ho : w.ownsRow lo 5 1 (.slice A nn c) nn ((bI f).map (Value.int .u8))) (hb : isBs f) (hl : f.length ≤ 1000000) :
    Calls Tryz.prog 80 #[.pointer (some ⟨cd, 0, none⟩), .slice A nn c] w fun e w' => ∃ x : LV, e = .returned (.tuple #[x.l.agg, .int .i64 (dE f)]) ∧ x.val = (if dE f = 0 then dV f else LVal.zero) ∧ LOwn w' w.heap.size x ∧ NetAt w' lo g cd gt bg bd v s n (m + 1) ∧ Chg w w' (fun k => k = gt ∨ k = cd) := by
  obtain ⟨d, x, y, hcd, hx, hy⟩ := h.cod
  obtain ⟨l1, l2, l3, l4, l5⟩ := h.low
  have hr := own_reads ho
  obtain ⟨hc1, hc2⟩ := own_caps ho
  have hlen : f.length = nn := by have := hr.1; simpa [bI] using this
  obtain ⟨cs2, htb⟩ := tb_blk hcd.2
  refine (decode_any cd gt d x y A nn c w.heap.size f w hcd hr hb (Nat.le_refl _) (fun ad _ e e2 => own_blk_ne ho htb (by decide) ((own_ad ho e).trans (by rw [e2]))) (by omega) hc1 (by have := hc2; unfold maxLen at this; omega) (by omega) (by omega) (fun W hc => hK.chg hc (fun e => by omega))).mono ?_
  rintro e w' ⟨z, rfl, hv, hown, ⟨d', hcd'⟩, hch⟩
  refine ⟨z, rfl, hv, hown, h.move hch ⟨d', _, _, hcd', ?_, ?_⟩, hch⟩
  · unfold cntX; split <;> omega
  · unfold cntY; split <;> omega
theorem map_erase {α β : Type} (f : α → β) : ∀ (l : List α) (k : Nat), (l.eraseIdx k).map f = (l.map f).eraseIdx k
  | [], _ => rfl
  | _ :: _, 0 => rfl
  | a :: l, k + 1 => by
    show f a :: (l.eraseIdx k).map f = f a :: (l.map f).eraseIdx k
    rw [map_erase f l k]
section
variable {W W' : World} {lo g cd gt bg bd : Nat} {v v' : Value} {s s' : NBg} {n n' : Nv} {m m' : Int}
theorem NetAt.taken (h : NetAt W lo g cd gt bg bd v s n m) {k : Nat} (hk : k < n.l.length) (hs : NBStep W W' bg v v') (ha : NBagAt W' bg v' (s.take k)) : NetAt W' lo g cd gt bg bd v' (s.take k) { n with l := n.l.eraseIdx k } m := by
  have hl := h.len
  have hh : s.has k = true := (NBg.has_iff s k).2 ⟨by omega, by omega⟩
  have hv : s.take k = ⟨s.most, s.last, s.l.eraseIdx k⟩ := by rw [NBg.take, if_pos hh, Int.toNat_natCast]
  refine h.bagged hs ha rfl (by rw [hv]; exact h.most) (by rw [hv]; exact h.last) ?_ ?_
  · rw [hv]
    show (s.l.eraseIdx k).map Prod.fst = (n.l.eraseIdx k).map Prod.fst
    rw [map_erase, map_erase, h.no]
  · intro j p q hp hq
    rw [hv] at hp
    have hp : (s.l.eraseIdx k)[j]? = some p := hp
    have hq : (n.l.eraseIdx k)[j]? = some q := hq
    rw [List.getElem?_eraseIdx] at hp hq
    split at hp
    · rename_i hj
      rw [if_pos hj] at hq
      exact h.byt j p q hp hq
    · rename_i hj
      rw [if_neg hj] at hq
      exact h.byt (j + 1) p q hp hq
end
theorem netTake_yes {lo g cd gt bg bd k : Nat} {v : Value} {s : NBg} {n : Nv} {m : Int} {p : Int × Sv} {q : Int × List Nat} (w : World) (h : NetAt w lo g cd gt bg bd v s n m) (hp : s.l[k]? = some p) (hq : n.l[k]? = some q) :
    Calls Tryz.prog 82 #[.pointer (some ⟨bg, 0, none⟩), .int .i64 k] w fun e w' => e = .returned (.tuple #[.slice p.2.A p.2.n p.2.c, .bool true]) ∧ ∃ v', NetAt w' lo g cd gt bg bd v' (s.take k) { n with l := n.l.eraseIdx k } m ∧ NStep w w' cd gt bg bd v v' ∧ w'.ownsRow lo 5 1 (.slice p.2.A p.2.n p.2.c) p.2.n ((bI q.2).map (Value.int .u8)) ∧ w.heap.size ≤ w'.heap.size := by
  have hk := (List.getElem?_eq_some_iff.1 hq).1
  have hh : s.has k = true := (NBg.has_iff s k).2 ⟨by omega, by have := (List.getElem?_eq_some_iff.1 hp).1; omega⟩
  have hv : s.at_ k = (p.2, true) := by rw [NBg.at_, if_pos hh, Int.toNat_natCast, List.getD_eq_getElem?_getD, hp]; rfl
  have := nb_take_any bg v s k w h.bag
  rw [hv] at this
  refine this.mono ?_
  rintro e w' ⟨rfl, v', ha, hs⟩
  obtain ⟨ho, hb⟩ := h.byt k p q hp hq
  have hS : ∀ j, (j = bg ∨ v.ownBlock = some j) → NetS cd gt bg bd v j := fun j e => by rcases e with e | e; exact .inr (.inr (.inl e)); exact .inr (.inr (.inr (.inr e)))
  exact ⟨rfl, v', h.taken hk hs ha, NStep.bag hs cd gt bd, hs.chg.own ho (fun j hj e => h.outO ho (by decide) (by decide) (by decide) (by decide) (by decide) hj (hS _ e)), hs.chg.size⟩
def Bd.small (b : Bd) : Prop := (0 ≤ b.a ∧ b.a ≤ 1000000) ∧ (0 ≤ b.b ∧ b.b ≤ 1000000) ∧ (0 ≤ b.c ∧ b.c ≤ 1000000) ∧ (0 ≤ b.d ∧ b.d ≤ 1000000)
theorem Bd.wrap (b : Bd) (h : b.small) (i : Nat) : IntKind.i64.wrap (b.get i + 1) = b.get i + 1 := by
  obtain ⟨h1, h2, h3, h4⟩ := h
  rw [IntKind.wrap_i64]
  unfold Bd.get
  split <;> omega
theorem netAdd_any {lo g cd gt bg bd : Nat} {v : Value} {s : NBg} {n : Nv} {m : Int} (i : Nat) (hi : i < 4) (w : World) (h : NetAt w lo g cd gt bg bd v s n m) (hb : n.b.small) :
    Calls Tryz.prog 76 #[.pointer (some ⟨bd, 0, none⟩), .int .i64 i, .int .i64 1] w fun e w' => e = .returned (.bool true) ∧ NetAt w' lo g cd gt bg bd v s { n with b := n.b.add i 1 } m ∧ NStep w w' cd gt bg bd v v := by
  refine (bdAdd_any bd n.b i hi 1 w (n.b.wrap hb i) h.brd).mono ?_
  rintro e w' ⟨rfl, h1, h2⟩
  exact ⟨rfl, h.board h2 h1, NStep.board h2 cd gt bg v⟩
theorem netLose_yes {lo g cd gt bg bd k : Nat} {v : Value} {s : NBg} {n : Nv} {m : Int} {p : Int × Sv} {q : Int × List Nat} (w : World) (h : NetAt w lo g cd gt bg bd v s n m) (hb : n.b.small) (hp : s.l[k]? = some p) (hq : n.l[k]? = some q) :
    Calls Tryz.prog 37 #[.pointer (some ⟨g, 0, none⟩), .int .i64 k] w fun e w' => e = .returned (.bool true) ∧ ∃ v', NetAt w' lo g cd gt bg bd v' (s.take k) { n with l := n.l.eraseIdx k, b := n.b.add 2 1 } m ∧ NStep w w' cd gt bg bd v v' := by
  have BG := Lib.hid (netBag_any w h)
  have TK := Lib.hid (netTake_yes w h hp hq)
  have HB := Lib.hid hb
  clear h hb hp
  go_enter Tryz.func37, Tryz.ntmps37
  go_wp2_with (fail)
  refine BG.out.mono ?_
  rintro e w1 ⟨rfl, rfl⟩
  go_wp2_with (fail)
  refine TK.out.mono ?_
  rintro e w2 ⟨rfl, v', hn, hs, _, _⟩
  have N2 := Lib.hid hn
  have S2 := Lib.hid hs
  have AD := Lib.hid (netAdd_any 2 (by decide) w2 hn HB.out)
  have c2 : w2.cell? ⟨g, 2, none⟩ = some (.pointer (some ⟨bd, 0, none⟩)) := hn.box.cell 2
  clear hn hs TK BG
  go_wp2_with (fail)
  refine AD.out.mono ?_
  rintro e w3 ⟨rfl, hn, hs⟩
  have N3 := Lib.hid hn
  have S3 := Lib.hid (S2.out.trans hs)
  clear hn hs AD
  go_wp2_with (fail)
  go_ret
  exact ⟨rfl, v', N3.out, S3.out⟩
end Go.Proofs.YtnnegldaekmgbaaGreatDoor
