/- An atlas: New. -/
import Derived.Test.YtnnegldaekmgbaaGreatDoorZAtlC
namespace Go.Proofs.YtnnegldaekmgbaaGreatDoor
open Go.RowKit
set_option linter.unusedSimpArgs false
set_option linter.unusedVariables false
set_option maxHeartbeats 8000000
set_option maxRecDepth 100000

def LzL (w : World) (g : Nat) (mk : Value) : Prop := Blk w g 269 #[.int .u32 0, .int .i32 0, .int .u32 0, mk, .int .i32 0, .slice none 0 0]
theorem ofL_any (fid : Nat) (caps : Array Value) (w : World) : Calls Tryz.prog 106 #[.func (.func fid) #[] caps] w fun e w' => e = .returned (.pointer (some ⟨w.heap.size, 0, none⟩)) ∧ w' = w.alloc (.cells #[.int .u32 0, .int .i32 0, .int .u32 0, .func (.func fid) #[] caps, .int .i32 0, .slice none 0 0] 269) := by
  go_enter Tryz.func106, Tryz.ntmps106
  go_wp2
  go_ret
  exact ⟨rfl, rfl⟩
def tabMk (cB : Nat) : Value := .func (.func 103) #[] #[.pointer (some ⟨cB, 0, none⟩)]
/-- an atlas of the call's own: its struct, its configurations, its latch, the number that its closure holds -/
structure AtX (w : World) (b0 G q h cB : Nat) (o : List Cf) : Prop where
  blk : Blk w G 176 #[.slice (some ⟨q, 0, none⟩) o.length o.length, .pointer (some ⟨h, 0, none⟩)]
  conf : Blk w q 44 ⟨o.flatMap Cf.row⟩
  own : ∀ x ∈ o, CfOwn w (q + 1) x
  keys : LzL w h (tabMk cB)
  num : Blk w cB 3 #[.int .i64 o.length]
  few : (1 ≤ o.length ∧ o.length ≤ 4) ∧ ∀ x ∈ o, x.len ≤ 1000000
  b0 : b0 ≤ cB
  lt : cB < q ∧ q < h ∧ h < G
def At (w : World) (b0 G : Nat) (vs : List (Int × Int × List Int × Bool × Int)) : Prop := ∃ q h cB o, AtX w b0 G q h cB o ∧ o.map Cf.val = vs
theorem AtX.below {w w' : World} {b0 G q h cB : Nat} {o : List Cf} (a : AtX w b0 G q h cB o) (hb : Below w.heap.size w w') : AtX w' b0 G q h cB o :=
  ⟨a.blk.below hb a.blk.lt, a.conf.below hb a.conf.lt, fun x hx => (a.own x hx).later hb (Nat.le_refl _), Blk.below a.keys hb (Blk.lt a.keys), a.num.below hb a.num.lt, a.few, a.b0, a.lt⟩
theorem At.below {w w' : World} {b0 G : Nat} {vs : List (Int × Int × List Int × Bool × Int)} (a : At w b0 G vs) (hb : Below w.heap.size w w') : At w' b0 G vs := by
  obtain ⟨q, h, cB, o, ha, hv⟩ := a
  exact ⟨q, h, cB, o, ha.below hb, hv⟩
theorem few_of {o l : List Cf} {n : Nat} (h : o.map Cf.val = (l.take n).map Cf.val) (ho : ∀ x ∈ o, x.zs.length = x.len) (hl : ∀ x ∈ l, x.zs.length = x.len) (hx : ∀ x ∈ l, x.len ≤ 1000000) : ∀ x ∈ o, x.len ≤ 1000000 := by
  intro x hm
  have h1 : x.val ∈ (l.take n).map Cf.val := by rw [← h]; exact List.mem_map_of_mem hm
  obtain ⟨y, hy, he⟩ := List.mem_map.1 h1
  have hy' := List.mem_of_mem_take hy
  have hz : y.zs = x.zs := by have := congrArg (fun v => v.2.2.1) he; exact this
  rw [← ho x hm, ← hz, hl y hy']
  exact hx y hy'
theorem atlNew_any (A : Option Addr) (n c B : Nat) (l : List Cf) (w : World) (hl : CfsIn w B A n l) (hB : B ≤ w.heap.size) :
    Calls Tryz.prog 50 #[.slice A n c] w fun e w' => Below w.heap.size w w' ∧ ((allB l = false ∧ e = .returned (.tuple #[.pointer none, .int .i64 1])) ∨ (allB l = true ∧ ∃ G, e = .returned (.tuple #[.pointer (some ⟨G, 0, none⟩), .int .i64 0]) ∧ At w' w.heap.size G (l.map Cf.val))) := by
  have hmf : ∀ (fn : Fn) (first cap : Array Value) (w : World), (Instr.makeFunc fn first cap).run Tryz.prog w = .ok (.func fn first cap) w := fun _ _ _ _ => rfl
  have hlen := hl.len
  have HL := Lib.hid hl
  have HN : Hid (l.length = n) := Lib.hid hlen
  clear hl hlen
  cases hA : allB l
  · go_enter Tryz.func50, Tryz.ntmps50
    go_wp2_with (fail)
    refine (all_any A n c B l _ HL.out hB).mono ?_
    rintro e w1 ⟨rfl, h⟩
    have H1 := Lib.hid h
    clear h
    go_wp2
    go_ret2
    exact ⟨H1.out, .inl ⟨by trivial, rfl⟩⟩
  · have hall := allB_iff.1 hA
    have hn4 : n ≤ 4 := by rw [← HN.out]; exact hall.1.2
    have hx : ∀ x ∈ l, x.len ≤ 1000000 := by
      intro x hx
      obtain ⟨j, hj, he⟩ := List.getElem_of_mem hx
      have := (Cf.right_fine (hall.2.1 j x hj (by rw [List.getElem?_eq_getElem hj, he])).2).1.2.2.1.2
      omega
    have HX := Lib.hid hx
    clear hx
    replace hall := Lib.hid hall
    go_enter Tryz.func50, Tryz.ntmps50
    go_wp2_with (fail)
    refine (all_any A n c B l _ HL.out hB).mono ?_
    rintro e w1 ⟨rfl, h⟩
    have H1 := Lib.hid h
    have hs1 := h.size
    clear h
    go_wp2_with (fail)
    refine (copy_any A n c B l _ ((HL.out.below (H1.out.mono hB)).below ((Below.refl _ _).alloc (by omega) _)) (by simp; omega) (by omega) HX.out).mono ?_
    rintro e w2 ⟨o, rfl, hcp⟩
    have hs2 := hcp.bel.size
    simp only [World.size_alloc] at hs2
    have CP := Lib.hid hcp
    clear hcp
    go_wp2_with (go_at_call 106; refine (ofL_any _ _ _).mono ?_; rintro e w3 ⟨rfl, rfl⟩)
    go_ret2
    have hcp := CP.out
    have hol : o.length = n := hcp.len
    have hlt := hcp.blk.lt
    simp only [World.size_alloc] at hlt
    have hnum : Blk w2 w1.heap.size 3 #[.int .i64 n] := (Blk.new w1 3 #[.int .i64 (n : Int)]).below hcp.bel (by simp)
    refine ⟨?_, .inr ⟨by trivial, _, rfl, w1.heap.size + 1, w2.heap.size, w1.heap.size, o, ?_, ?_⟩⟩
    · exact (((H1.out.trans ((Below.refl _ _).alloc hs1 _)).trans (hcp.bel.mono (by simp; omega))).alloc (by omega) _).alloc (by simp; omega) _
    · refine ⟨?_, ?_, ?_, ?_, ?_, ⟨by rw [hol, ← HN.out]; exact hall.out.1, few_of hcp.val (fun x hx => (hcp.own x hx).in_.len_eq) (fun x hx => (HL.out.mem x hx).len_eq) HX.out⟩, hs1, ⟨Nat.lt_succ_self _, hlt, ?_⟩⟩
      · have := Blk.new (w2.alloc (.cells #[.int .u32 0, .int .i32 0, .int .u32 0, tabMk w1.heap.size, .int .i32 0, .slice none 0 0] 269)) 176 #[.slice (some ⟨w1.heap.size + 1, 0, none⟩) n n, .pointer (some ⟨w2.heap.size, 0, none⟩)]
        simp only [World.size_alloc] at this
        rw [hol]; exact this
      · have := (hcp.blk.alloc (.cells #[.int .u32 0, .int .i32 0, .int .u32 0, tabMk w1.heap.size, .int .i32 0, .slice none 0 0] 269)).alloc (.cells #[.slice (some ⟨w1.heap.size + 1, 0, none⟩) n n, .pointer (some ⟨w2.heap.size, 0, none⟩)] 176)
        simp only [World.size_alloc, List.append_nil] at this
        exact this
      · intro x hx
        have h := hcp.own x hx
        simp only [World.size_alloc] at h
        exact (h.later ((Below.refl _ _).alloc (Nat.le_refl _) _) (Nat.le_refl _)).later ((Below.refl _ _).alloc (Nat.le_refl _) _) (Nat.le_refl _)
      · exact Blk.alloc (Blk.new w2 _ _) _
      · rw [hol]; exact (hnum.alloc _).alloc _
      · simp
    · rw [hcp.val, ← HN.out, List.take_length]
end Go.Proofs.YtnnegldaekmgbaaGreatDoor
