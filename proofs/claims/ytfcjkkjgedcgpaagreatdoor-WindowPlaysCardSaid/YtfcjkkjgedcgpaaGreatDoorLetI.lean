/- letter.Check of a letter of one update; update.check, Check, Asked. -/
import Derived.Test.YtfcjkkjgedcgpaaGreatDoorLetH

namespace Go.Proofs.YtfcjkkjgedcgpaaGreatDoor
open Go.RowKit
set_option linter.unusedSimpArgs false
set_option linter.unusedVariables false
set_option maxHeartbeats 8000000
set_option maxRecDepth 100000

theorem enter_parts12 : ∀ f ∈ [72, 77, 82, 82, 114], ∀ (args : Array Value) (w : World), (callFunc f args).run Tryz.prog w = .ok (.enter f args) w := by
  intro f hf
  simp only [List.mem_cons, List.not_mem_nil, or_false] at hf
  rcases hf with rfl | rfl | rfl | rfl | rfl
  · exact enters_of Tryz.func72 (by kernel_rfl) rfl
  · exact enters_of Tryz.func77 (by kernel_rfl) rfl
  · exact enters_of Tryz.func82 (by kernel_rfl) rfl
  · exact enters_of Tryz.func82 (by kernel_rfl) rfl
  · exact enters_of Tryz.func114 (by kernel_rfl) rfl
def okOf (b : Bool) (f : Nat) : Bool := if f = 114 then b else true
theorem all12 (b : Bool) : [72, 77, 82, 82, 114].all (okOf b) = b := by cases b <;> decide
theorem all17 (b : Bool) : [72, 77, 114].all (okOf b) = b := by cases b <;> decide
theorem check12_any (A : Option Addr) (c B : Nat) (u : Up) (w : World) (hK : KindsAt w) (h : UpsIn w B A 1 [u]) (hB : B ≤ w.heap.size) (hn : u.n ≤ 1000000) :
    Calls Tryz.prog 39 #[(uLt 12 A c).agg] w fun e w' => e = .returned (.int .i64 (chkR (upOkB u false))) ∧ Below w.heap.size w w' := by
  have hin : ∀ W, Below w.heap.size w W → UpsIn W B A 1 [u] := fun W hb => h.below (hb.mono hB)
  have hsz : ∀ W, Below w.heap.size w W → B ≤ W.heap.size := fun W hb => Nat.le_trans hB hb.size
  have := check_of (uLt 12 A c) 12 (by omega) (by omega) rfl w hK true (fun W => address1_any W) (fun W => address1_any W)
    (fun W hb => by rw [mask12]; exact letSame_any 12 A c B u W (hin W hb) (hsz W hb))
    [72, 77, 82, 82, 114] (okOf (upOkB u false)) (fun W hk => parts12_any W hk) enter_parts12
    (fun f hf W hb => by
      simp only [List.mem_cons, List.not_mem_nil, or_false] at hf
      rcases hf with rfl | rfl | rfl | rfl | rfl
      · exact fineCh_any 12 A c W
      · exact fineEp_any 12 A c W
      · exact fineAny_any 12 A c W
      · exact fineAny_any 12 A c W
      · exact letUpdates_any 12 A c B u W (hin W hb) (hsz W hb) hn (.inl rfl)) (by simp)
  rw [all12] at this
  exact this
theorem check17_any (A : Option Addr) (c B : Nat) (u : Up) (w : World) (hK : KindsAt w) (h : UpsIn w B A 1 [u]) (hB : B ≤ w.heap.size) (hn : u.n ≤ 1000000) :
    Calls Tryz.prog 39 #[(uLt 17 A c).agg] w fun e w' => e = .returned (.int .i64 (chkR (upOkB u true))) ∧ Below w.heap.size w w' := by
  have hin : ∀ W, Below w.heap.size w W → UpsIn W B A 1 [u] := fun W hb => h.below (hb.mono hB)
  have hsz : ∀ W, Below w.heap.size w W → B ≤ W.heap.size := fun W hb => Nat.le_trans hB hb.size
  have := check_of (uLt 17 A c) 17 (by omega) (by omega) rfl w hK true (fun W => address1_any W) (fun W => address1_any W)
    (fun W hb => by rw [mask17]; exact letSame_any 17 A c B u W (hin W hb) (hsz W hb))
    [72, 77, 114] (okOf (upOkB u true)) (fun W hk => parts17_any W hk) (fun f hf => enter_parts12 f (by simp only [List.mem_cons, List.not_mem_nil, or_false] at hf ⊢; rcases hf with rfl | rfl | rfl <;> simp))
    (fun f hf W hb => by
      simp only [List.mem_cons, List.not_mem_nil, or_false] at hf
      rcases hf with rfl | rfl | rfl
      · exact fineCh_any 17 A c W
      · exact fineEp_any 17 A c W
      · exact letUpdates_any 17 A c B u W (hin W hb) (hsz W hb) hn (.inr rfl)) (by simp)
  rw [all17] at this
  exact this
attribute [local go_sem] Up.agg Up.cells
/-- the answer to an update: 1, 6, or what its letter is told -/
noncomputable def updE (u : Up) (r : Bool) : Int := if writesB u.kd = false then 1 else if 2048 < u.n then 6 else chkR (upOkB u r)
theorem upd_hdr (k : Int) (A : Option Addr) (c : Nat) (w : World) : (Instr.build 75 #[(0, .int .i64 k), (1, .int .i64 1), (2, .int .i64 1), (4, .int .u64 1), (16, .slice A 1 c)]).run Tryz.prog w = .ok (uLt k A c).agg w := by kernel_rfl
theorem ups_new (W : World) (u : Up) (B : Nat) (h : UpIn W B u) (hB : B ≤ W.heap.size) : UpsIn (W.alloc (.cells u.cells 29)) (W.alloc (.cells u.cells 29)).heap.size (some ⟨W.heap.size, 0, none⟩) 1 [u] :=
  ⟨⟨rfl, fun _ => ⟨_, rfl, by simp, fun j x hx => cells_new_at W u.cells 29 _ rfl j x (by simpa [Up.cells, Up.row] using hx)⟩⟩,
    fun x hx => by
      simp only [List.mem_cons, List.not_mem_nil, or_false] at hx
      subst hx
      exact ⟨(h.rd.alloc hB _).more (by simp; omega), h.hc, h.hm, h.wf⟩⟩
theorem updCheck_any (k : Int) (u : Up) (B : Nat) (w : World) (hk : k = 12 ∨ k = 17) (hK : KindsAt w) (h : UpIn w B u) (hB : B ≤ w.heap.size) (hn : u.n ≤ 1000000) :
    Calls Tryz.prog 32 #[u.agg, .int .i64 k] w fun e w' => e = .returned (.int .i64 (updE u (k == 17))) ∧ Below w.heap.size w w' := by
  have HB : Hid (Below w.heap.size w (w.alloc (.cells u.cells 29))) := Lib.hid (by repeat (first | with_reducible exact Below.refl _ _ | with_reducible refine Below.setCell ?_ (by first | omega | (simp <;> omega)) _ | with_reducible refine Below.alloc ?_ (by first | omega | (simp <;> omega)) _ | with_reducible refine below_drewN ?_ _ | with_reducible refine Below.drew ?_))
  have HW : Hid (writesB u.kd = false → updE u (k == 17) = 1) := Lib.hid (fun e => by unfold updE; rw [if_pos e])
  have HLL : Hid (writesB u.kd = true → 2048 < u.n → updE u (k == 17) = 6) := Lib.hid (fun e e2 => by unfold updE; rw [if_neg (by rw [e]; simp), if_pos e2])
  have HLC : Hid (writesB u.kd = true → ¬ 2048 < u.n → updE u (k == 17) = chkR (upOkB u (k == 17))) := Lib.hid (fun e e2 => by unfold updE; rw [if_neg (by rw [e]; simp), if_neg e2])
  have W1 := Lib.hid (writes_any u.kd)
  obtain ⟨b, hb⟩ : ∃ b, b = writesB u.kd := ⟨_, rfl⟩
  rw [← hb] at HW HLL HLC W1
  clear hb
  have HKK := Lib.hid hk
  have HU2 : Hid (UpsIn ((w.alloc (.cells u.cells 29)).alloc (.cells u.cells 29)) ((w.alloc (.cells u.cells 29)).alloc (.cells u.cells 29)).heap.size (some ⟨w.heap.size + 1, 0, none⟩) 1 [u]) :=
    Lib.hid (by
      have := ups_new (w.alloc (.cells u.cells 29)) u B ⟨h.rd.alloc hB _, h.hc, h.hm, h.wf⟩ (by simp; omega)
      simpa using this)
  have HB2 : Hid (Below w.heap.size w ((w.alloc (.cells u.cells 29)).alloc (.cells u.cells 29))) := Lib.hid (by repeat (first | with_reducible exact Below.refl _ _ | with_reducible refine Below.setCell ?_ (by first | omega | (simp <;> omega)) _ | with_reducible refine Below.alloc ?_ (by first | omega | (simp <;> omega)) _ | with_reducible refine below_drewN ?_ _ | with_reducible refine Below.drew ?_))
  have CK : Hid (Calls Tryz.prog 39 #[(uLt k (some ⟨w.heap.size + 1, 0, none⟩) 1).agg] ((w.alloc (.cells u.cells 29)).alloc (.cells u.cells 29)) fun e w' => e = .returned (.int .i64 (chkR (upOkB u (k == 17)))) ∧ Below ((w.alloc (.cells u.cells 29)).alloc (.cells u.cells 29)).heap.size ((w.alloc (.cells u.cells 29)).alloc (.cells u.cells 29)) w') := Lib.hid (by
    rcases hk with rfl | rfl
    · exact check12_any _ 1 _ u _ (hK.below HB2.out) HU2.out (Nat.le_refl _) hn
    · exact check17_any _ 1 _ u _ (hK.below HB2.out) HU2.out (Nat.le_refl _) hn)
  have hhdr := upd_hdr k
  clear hk hK h
  cases b with
  | false =>
    have HL6 := Lib.hid (HW.out rfl)
    go_enter Tryz.func32, Tryz.ntmps32
    go_wp2_with (fail)
    refine (W1.out _).mono ?_
    rintro e w1 ⟨rfl, rfl⟩
    go_wp2_with (fail)
    go_ret
    exact ⟨by rw [HL6.out]; rfl, HB.out⟩
  | true =>
    by_cases hl : (2048 : Int) < u.n
    · have HL6 := Lib.hid (HLL.out rfl (by omega))
      go_enter Tryz.func32, Tryz.ntmps32
      go_wp2_with (fail)
      refine (W1.out _).mono ?_
      rintro e w1 ⟨rfl, rfl⟩
      go_wp2_with (fail)
      go_ret
      exact ⟨by rw [HL6.out]; rfl, HB.out⟩
    · have HL6 := Lib.hid (HLC.out rfl (by omega))
      go_enter Tryz.func32, Tryz.ntmps32
      go_wp2_with (fail)
      refine (W1.out _).mono ?_
      rintro e w1 ⟨rfl, rfl⟩
      go_wp2_with (fail)
      refine CK.out.mono ?_
      rintro e w2 ⟨rfl, h2⟩
      have H3 := Lib.hid (HB2.out.trans (h2.mono HB2.out.size))
      clear h2
      go_wp2_with (fail)
      go_ret
      exact ⟨by rw [HL6.out]; rfl, H3.out⟩
theorem updCheckT_any (u : Up) (B : Nat) (w : World) (hK : KindsAt w) (h : UpIn w B u) (hB : B ≤ w.heap.size) (hn : u.n ≤ 1000000) :
    Calls Tryz.prog 24 #[u.agg] w fun e w' => e = .returned (.int .i64 (updE u false)) ∧ Below w.heap.size w w' := by
  have HB : Hid (Below w.heap.size w (w.alloc (.cells u.cells 29))) := Lib.hid (by repeat (first | with_reducible exact Below.refl _ _ | with_reducible refine Below.setCell ?_ (by first | omega | (simp <;> omega)) _ | with_reducible refine Below.alloc ?_ (by first | omega | (simp <;> omega)) _ | with_reducible refine below_drewN ?_ _ | with_reducible refine Below.drew ?_))
  have C := Lib.hid (updCheck_any 12 u B _ (.inl rfl) (hK.below HB.out) (h.below (HB.out.mono hB)) (Nat.le_trans hB HB.out.size) hn)
  clear hK h
  go_enter Tryz.func24, Tryz.ntmps24
  go_wp2_with (fail)
  refine C.out.mono ?_
  rintro e w2 ⟨rfl, h2⟩
  have H3 := Lib.hid (HB.out.trans (h2.mono HB.out.size))
  clear h2
  go_wp2_with (fail)
  go_ret
  exact ⟨rfl, H3.out⟩
end Go.Proofs.YtfcjkkjgedcgpaaGreatDoor
