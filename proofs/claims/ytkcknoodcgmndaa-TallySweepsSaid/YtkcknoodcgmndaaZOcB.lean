import Derived.Test.YtkcknoodcgmndaaZRfD
import Derived.Test.YtkcknoodcgmndaaZTcE
import Derived.Test.YtkcknoodcgmndaaZSwO
import Derived.Conc.WgWords
import Derived.Laws.BitsAllLaws
import Derived.Test.YtkcknoodcgmndaaZTcD
import Derived.Laws.Bits128
section
/- tally's All of no marks. -/
namespace Go.Proofs.Ytkcknoodcgmndaa
open Go.Conc Go.RowKit
set_option linter.unusedVariables false
set_option linter.unusedSimpArgs false
set_option maxRecDepth 100000
set_option maxHeartbeats 4000000













section
variable {Shun : Loc → Prop}
theorem marked39_W (p : Option Addr) (w : World) : CW Shun 39 #[.pointer p] w (fun r w' => r = .func (.func 64) #[] #[.pointer (some ⟨w.heap.size, 0, none⟩)] ∧ AtRel (w.alloc (.cells #[.pointer p] 35)) w') := by
  have T9 := termsP Shun
  refine callsW_enter Try.func39 (by kernel_rfl) rfl ?_
  simp only [Try.ntmps39]
  walk_nrm
  have hF := atRel_refl w
  (refine codeW_seq T9 ?_)
  (refine codeW_region T9 ?_; simp only [List.size_toArray, List.length_cons, List.length_nil, Nat.reduceAdd, Nat.zero_add, List.range, List.range.loop])
  (refine opsW_cons rfl (by rfl) ?_; intro _ hR K hK; replace hF := atRel_trans _ _ _ hF hR; clear hR; have hs9 := atRel_size hF; go_simp; refine hK _ _ ⟨?_, ?_⟩; (· rw [listed_nil (by simp [go_sem, *])]; exact dp0_nil); clear hK K hs9; try walk_nrm)
  replace hF := atRel_alloc hF (.cells #[.pointer p] 35)
  (repeat (first | (refine codeW_seq T9 ?_) | (refine codeW_region T9 ?_; simp only [List.size_toArray, List.length_cons, List.length_nil, Nat.reduceAdd, Nat.zero_add, List.range, List.range.loop]) | (refine opsW_nil T9 ?_; simp only [Exit.then, Exit.inBlock]) | (refine codeW_skip T9 ?_; simp only [Exit.then]) | ((first | refine codeW_cond T9 (t := true) rfl ?_ | refine codeW_cond T9 (t := false) rfl ?_); simp only [if_true, if_false, Bool.false_eq_true, ↓reduceIte]) | (refine opsW_unwanted T9 rfl (by rfl) ?_; try walk_nrm) | (refine opsW_cons rfl (by rfl) ?_; intro _ hR K hK; replace hF := atRel_trans _ _ _ hF hR; clear hR; have hs9 := atRel_size hF; go_simp; refine hK _ _ ⟨?_, ?_⟩; (· rw [listed_nil (by simp [go_sem, *])]; exact dp0_nil); clear hK K hs9; try walk_nrm) | (refine codeW_block T9 ?_)))
  (refine codeW_ret T9 ?_)
  exact ⟨rfl, _, resultsC_tmp rfl _, rfl, hF⟩
structure NilP (w w' : World) : Prop where
  bel : Below w.heap.size w w'
  cell : w'.cell? ⟨w.heap.size, 0, none⟩ = some (.slice none 0 0)
  mark : w'.heap[w.heap.size + 1]? = some (.deferred (some []))
theorem NilP.at {w W W' : World} (h : NilP w W) (r : AtRel W W') : NilP w W' := by
  obtain ⟨q, rfl⟩ := r
  exact ⟨⟨h.bel.os, h.bel.tape, h.bel.output, h.bel.size, h.bel.block⟩, h.cell, h.mark⟩
theorem below_putO {n : Nat} {w W : World} (h : Below n w W) (l : Nat) (hl : n ≤ l) (o : Obj) : Below n w (putO W l o) :=
  ⟨h.os, h.tape, h.output, by have := h.size; simpa [putO] using this, fun g hg => by
    have e : (putO W l o).heap[g]? = W.heap[g]? := by
      simp only [putO]
      rw [Array.getElem?_setIfInBounds_ne (by omega)]
    exact e.trans (h.block g hg)⟩
theorem below_alloc9 {n : Nat} {w W : World} (x : Below n w W) (hn : n ≤ w.heap.size) (o : Obj) : Below n w (W.alloc o) :=
  ⟨x.os, x.tape, x.output, by have := x.size; simp; omega, fun g hg => (Below.heap_alloc _ _ _ (by have := x.size; omega)).trans (x.block g hg)⟩
theorem below_self (n : Nat) (w : World) : Below n w w := ⟨rfl, rfl, rfl, Nat.le_refl _, fun _ _ => rfl⟩
theorem enter_loop (w : World) (r : Loop) : ((w.alloc (.deferred (some []))).alloc (.loop r)).heap[w.heap.size + 1]? = some (.loop r) := by
  have := alloc_new (w.alloc (.deferred (some []))) (.loop r)
  simpa using this
theorem enter_mark (w : World) (r : Loop) : ((w.alloc (.deferred (some []))).alloc (.loop r)).heap[w.heap.size]? = some (.deferred (some [])) :=
  (Below.heap_alloc _ _ _ (by simp)).trans (alloc_new w _)
theorem enter_old (w : World) (r : Loop) {g : Nat} (hg : g < w.heap.size) : ((w.alloc (.deferred (some []))).alloc (.loop r)).heap[g]? = w.heap[g]? :=
  (Below.heap_alloc _ _ _ (by simp; omega)).trans (Below.heap_alloc _ _ _ hg)
theorem below_at {n : Nat} {w W W' : World} (h : Below n w W) (r : AtRel W W') : Below n w W' := by
  obtain ⟨q, rfl⟩ := r
  exact ⟨h.os, h.tape, h.output, h.size, h.block⟩
theorem putO_obj {w : World} {l g : Nat} (o : Obj) (h : g ≠ l) : (putO w l o).heap[g]? = w.heap[g]? := by
  simp only [putO]
  rw [Array.getElem?_setIfInBounds_ne (by omega)]
end
end Go.Proofs.Ytkcknoodcgmndaa

end
section
/- The ones of a number below 2^64, by the seven steps of the library's own code: plain arithmetic. -/
namespace Go.Proofs.Ytkcknoodcgmndaa
set_option linter.unusedVariables false
set_option linter.unusedSimpArgs false
namespace Ones
def val : List Nat → Nat
  | [] => 0
  | b :: r => b + 256 * val r
def M (c : Nat) : Nat → Nat
  | 0 => 0
  | n + 1 => c + 256 * M c n
theorem and_split (a b c d : Nat) (ha : a < 256) (hc : c < 256) : (a + 256 * b) &&& (c + 256 * d) = (a &&& c) + 256 * (b &&& d) := by
  have h1 : ((a + 256 * b) &&& (c + 256 * d)) % 2 ^ 8 = (a &&& c) := by
    rw [Nat.and_mod_two_pow]
    rw [show (a + 256 * b) % 2 ^ 8 = a by omega, show (c + 256 * d) % 2 ^ 8 = c by omega]
  have h2 : ((a + 256 * b) &&& (c + 256 * d)) / 2 ^ 8 = (b &&& d) := by
    rw [Nat.and_div_two_pow]
    rw [show (a + 256 * b) / 2 ^ 8 = b by omega, show (c + 256 * d) / 2 ^ 8 = d by omega]
  omega
/-- a step: shifted and masked, plus masked -/
def s (k c b : Nat) : Nat := ((b / 2 ^ k) &&& c) + (b &&& c)
theorem step_list (k c : Nat) (hk : k ≤ 8) (hc : c < 2 ^ (8 - k)) : ∀ bs : List Nat, (∀ b ∈ bs, b < 256) →
    (((val bs / 2 ^ k) &&& M c bs.length) + (val bs &&& M c bs.length)) = val (bs.map (s k c))
  | [], _ => by simp [val, M]
  | b :: r, h => by
    have ih := step_list k c hk hc r fun x hx => h x (List.mem_cons_of_mem _ hx)
    have hb := h b (List.mem_cons_self ..)
    have hp : 2 ^ k * 2 ^ (8 - k) = 256 := by rw [← Nat.pow_add, show k + (8 - k) = 8 by omega]
    have hc' : c < 256 := by
      have : 2 ^ (8 - k) ≤ 2 ^ 8 := Nat.pow_le_pow_right (by omega) (by omega)
      omega
    simp only [val, M, List.length_cons, List.map_cons]
    rw [and_split b (val r) c _ hb hc']
    have e1 : (b + 256 * val r) / 2 ^ k = (b / 2 ^ k) + 2 ^ (8 - k) * val r := by
      rw [← hp, Nat.mul_assoc, Nat.add_mul_div_left _ _ (Nat.pow_pos (by omega))]
    have e2 : ((b / 2 ^ k) + 2 ^ (8 - k) * val r) = ((b / 2 ^ k) + 2 ^ (8 - k) * (val r % 2 ^ k)) + 256 * (val r / 2 ^ k) := by
      have := Nat.div_add_mod (val r) (2 ^ k)
      have h9 : 2 ^ (8 - k) * val r = 2 ^ (8 - k) * (2 ^ k * (val r / 2 ^ k) + val r % 2 ^ k) := by rw [this]
      rw [h9, Nat.mul_add, ← Nat.mul_assoc, Nat.mul_comm (2 ^ (8 - k)) (2 ^ k), hp]
      omega
    have hbk : b / 2 ^ k < 2 ^ (8 - k) := by
      rw [Nat.div_lt_iff_lt_mul (Nat.pow_pos (by omega)), Nat.mul_comm, hp]; exact hb
    have hlow : (b / 2 ^ k) + 2 ^ (8 - k) * (val r % 2 ^ k) < 256 := by
      have h1 : val r % 2 ^ k < 2 ^ k := Nat.mod_lt _ (Nat.pow_pos (by omega))
      have h2 : 2 ^ (8 - k) * (val r % 2 ^ k + 1) ≤ 2 ^ (8 - k) * 2 ^ k := Nat.mul_le_mul_left _ h1
      rw [Nat.mul_add, Nat.mul_comm (2 ^ (8 - k)) (2 ^ k), hp] at h2
      omega
    have hmask : ((b / 2 ^ k) + 2 ^ (8 - k) * (val r % 2 ^ k)) &&& c = (b / 2 ^ k) &&& c := by
      have hx : ∀ y z : Nat, y < 2 ^ (8 - k) → (y + 2 ^ (8 - k) * z) &&& c = y &&& c := by
        intro y z hy
        have h1 : ((y + 2 ^ (8 - k) * z) &&& c) % 2 ^ (8 - k) = y &&& c := by
          rw [Nat.and_mod_two_pow, Nat.add_mul_mod_self_left, Nat.mod_eq_of_lt hy, Nat.mod_eq_of_lt hc]
        rw [← h1]
        exact (Nat.mod_eq_of_lt (Nat.lt_of_le_of_lt Nat.and_le_right hc)).symm
      exact hx _ _ hbk
    rw [e1, e2, and_split _ _ c _ hlow hc', hmask, s]
    omega
def t (b : Nat) : Nat := (b + b / 16) % 16
theorem third_list : ∀ bs : List Nat, (∀ b ∈ bs, b < 256 ∧ b % 16 ≤ 4 ∧ b / 16 ≤ 4) → ((val bs / 16 + val bs) &&& M 15 bs.length) = val (bs.map t) ∧ val bs % 16 ≤ 4
  | [], _ => by simp [val, M]
  | b :: r, h => by
    obtain ⟨ih, hn⟩ := third_list r fun x hx => h x (List.mem_cons_of_mem _ hx)
    obtain ⟨h1, h2, h3⟩ := h b (List.mem_cons_self ..)
    simp only [val, M, List.length_cons, List.map_cons]
    refine ⟨?_, by omega⟩
    have e : (b + 256 * val r) / 16 + (b + 256 * val r) = (b + b / 16 + 16 * (val r % 16)) + 256 * (val r / 16 + val r) := by omega
    rw [e, and_split _ _ 15 _ (by omega) (by omega), ih]
    have : (b + b / 16 + 16 * (val r % 16)) &&& 15 = t b := by
      rw [show (15 : Nat) = 2 ^ 4 - 1 from rfl, Nat.and_two_pow_sub_one_eq_mod, t]
      omega
    rw [this]
def popc (n v : Nat) : Nat := ((List.range n).filter fun i => v.testBit i).length
theorem byte_pop : ∀ b : Fin 256, t (s 2 51 (s 1 85 b.val)) = popc 8 b.val ∧ (s 2 51 (s 1 85 b.val)) < 256 ∧ (s 2 51 (s 1 85 b.val)) % 16 ≤ 4 ∧ (s 2 51 (s 1 85 b.val)) / 16 ≤ 4 ∧ s 1 85 b.val < 256 ∧ popc 8 b.val ≤ 8 := by decide +kernel
theorem popc_cons (b u n : Nat) (hb : b < 256) : popc (8 + n) (b + 256 * u) = popc 8 b + popc n u := by
  unfold popc
  rw [List.range_add, List.filter_append, List.length_append, List.filter_map, List.length_map]
  congr 1
  · congr 1
    refine List.filter_congr fun i hi => ?_
    have hi : i < 8 := List.mem_range.1 hi
    rw [show b + 256 * u = 2 ^ 8 * u + b by omega, Nat.testBit_two_pow_mul_add _ hb]
    simp [hi]
  · congr 1
    refine List.filter_congr fun i hi => ?_
    simp only [Function.comp]
    rw [show b + 256 * u = 2 ^ 8 * u + b by omega, Nat.testBit_two_pow_mul_add _ hb]
    simp
    intro h
    omega
theorem popc_val : ∀ bs : List Nat, (∀ b ∈ bs, b < 256) → popc (8 * bs.length) (val bs) = (bs.map (popc 8)).sum
  | [], _ => by simp [popc]
  | b :: r, h => by
    rw [show 8 * (b :: r).length = 8 + 8 * r.length by simp; omega, val, popc_cons _ _ _ (h b (List.mem_cons_self ..)), popc_val r fun x hx => h x (List.mem_cons_of_mem _ hx)]
    simp
/-- the seven steps -/
theorem swar (v : Nat) (hv : v < 2 ^ 64) :
    let x1 := ((v / 2) &&& 6148914691236517205) + (v &&& 6148914691236517205)
    let x2 := ((x1 / 4) &&& 3689348814741910323) + (x1 &&& 3689348814741910323)
    let x3 := (x2 / 16 + x2) &&& 1085102592571150095
    let x4 := x3 / 256 + x3
    let x5 := x4 / 65536 + x4
    let x6 := x5 / 4294967296 + x5
    x1 < 2 ^ 64 ∧ x2 < 2 ^ 63 ∧ x3 < 2 ^ 62 ∧ x4 < 2 ^ 62 ∧ x5 < 2 ^ 62 ∧ x6 < 2 ^ 62 ∧ x6 % 128 = popc 64 v := by
  intro x1 x2 x3 x4 x5 x6
  let bs : List Nat := [v % 256, v / 256 % 256, v / 65536 % 256, v / 16777216 % 256, v / 4294967296 % 256, v / 1099511627776 % 256, v / 281474976710656 % 256, v / 72057594037927936 % 256]
  have hbs : val bs = v := by
    simp only [bs, val]
    omega
  have hlen : bs.length = 8 := rfl
  have hlt : ∀ b ∈ bs, b < 256 := by
    intro b hb
    simp only [bs, List.mem_cons, List.not_mem_nil, or_false] at hb
    omega
  have h1 : x1 = val (bs.map (s 1 85)) := by
    rw [← step_list 1 85 (by omega) (by omega) bs hlt, hbs, hlen]
    rfl
  have hlt1 : ∀ b ∈ bs.map (s 1 85), b < 256 := by
    intro b hb
    obtain ⟨c, hc, rfl⟩ := List.mem_map.1 hb
    exact (byte_pop ⟨c, hlt c hc⟩).2.2.2.2.1
  have h2 : x2 = val ((bs.map (s 1 85)).map (s 2 51)) := by
    rw [← step_list 2 51 (by omega) (by omega) _ hlt1, ← h1, List.length_map, hlen]
    rfl
  have hlt2 : ∀ b ∈ (bs.map (s 1 85)).map (s 2 51), b < 256 ∧ b % 16 ≤ 4 ∧ b / 16 ≤ 4 := by
    intro b hb
    obtain ⟨c, hc, rfl⟩ := List.mem_map.1 hb
    obtain ⟨d, hd, rfl⟩ := List.mem_map.1 hc
    have := byte_pop ⟨d, hlt d hd⟩
    exact ⟨this.2.1, this.2.2.1, this.2.2.2.1⟩
  have h3 : x3 = val (((bs.map (s 1 85)).map (s 2 51)).map t) := by
    rw [← (third_list _ hlt2).1, ← h2, List.length_map, List.length_map, hlen]
    rfl
  have h3' : ((bs.map (s 1 85)).map (s 2 51)).map t = bs.map (popc 8) := by
    rw [List.map_map, List.map_map]
    refine List.map_congr_left fun b hb => ?_
    exact (byte_pop ⟨b, hlt b hb⟩).1
  rw [h3'] at h3
  have hp : popc 64 v = (bs.map (popc 8)).sum := by
    rw [← hbs]
    exact popc_val bs hlt
  have hx1 : x1 < 2 ^ 64 ∧ x2 < 2 ^ 63 := by
    have a1 := Nat.and_le_right (n := v / 2) (m := 6148914691236517205)
    have a2 := Nat.and_le_right (n := v) (m := 6148914691236517205)
    have a3 := Nat.and_le_right (n := x1 / 4) (m := 3689348814741910323)
    have a4 := Nat.and_le_right (n := x1) (m := 3689348814741910323)
    have e1 : x1 = ((v / 2) &&& 6148914691236517205) + (v &&& 6148914691236517205) := rfl
    have e2 : x2 = ((x1 / 4) &&& 3689348814741910323) + (x1 &&& 3689348814741910323) := rfl
    omega
  have hle : ∀ b, b < 256 → popc 8 b ≤ 8 := fun b hb => (byte_pop ⟨b, hb⟩).2.2.2.2.2
  have l0 := hle (v % 256) (by omega)
  have l1 := hle (v / 256 % 256) (by omega)
  have l2 := hle (v / 65536 % 256) (by omega)
  have l3 := hle (v / 16777216 % 256) (by omega)
  have l4 := hle (v / 4294967296 % 256) (by omega)
  have l5 := hle (v / 1099511627776 % 256) (by omega)
  have l6 := hle (v / 281474976710656 % 256) (by omega)
  have l7 := hle (v / 72057594037927936 % 256) (by omega)
  simp only [bs, List.map_cons, List.map_nil, val, List.sum_cons, List.sum_nil] at h3 hp
  generalize popc 8 (v % 256) = p0 at *
  generalize popc 8 (v / 256 % 256) = p1 at *
  generalize popc 8 (v / 65536 % 256) = p2 at *
  generalize popc 8 (v / 16777216 % 256) = p3 at *
  generalize popc 8 (v / 4294967296 % 256) = p4 at *
  generalize popc 8 (v / 1099511627776 % 256) = p5 at *
  generalize popc 8 (v / 281474976710656 % 256) = p6 at *
  generalize popc 8 (v / 72057594037927936 % 256) = p7 at *
  have e4 : x4 = x3 / 256 + x3 := rfl
  have e5 : x5 = x4 / 65536 + x4 := rfl
  have e6 : x6 = x5 / 4294967296 + x5 := rfl
  clear_value x6 x5 x4 x3 x2 x1
  clear h1 hlt1 h2 hlt2 h3' hbs hlt hlen hle
  clear_value bs
  clear bs hv
  have f4 : x4 = (p0 + p1) + 256 * (p1 + p2) + 65536 * (p2 + p3) + 16777216 * (p3 + p4) + 4294967296 * (p4 + p5) + 1099511627776 * (p5 + p6) + 281474976710656 * (p6 + p7) + 72057594037927936 * p7 := by omega
  have f5 : x5 = (p0 + p1 + p2 + p3) + 256 * (p1 + p2 + p3 + p4) + 65536 * (p2 + p3 + p4 + p5) + 16777216 * (p3 + p4 + p5 + p6) + 4294967296 * (p4 + p5 + p6 + p7) + 1099511627776 * (p5 + p6 + p7) + 281474976710656 * (p6 + p7) + 72057594037927936 * p7 := by
    clear e6 hp
    omega
  have f6 : x6 = (p0 + p1 + p2 + p3 + p4 + p5 + p6 + p7) + 256 * (p1 + p2 + p3 + p4 + p5 + p6 + p7) + 65536 * (p2 + p3 + p4 + p5 + p6 + p7) + 16777216 * (p3 + p4 + p5 + p6 + p7) + 4294967296 * (p4 + p5 + p6 + p7) + 1099511627776 * (p5 + p6 + p7) + 281474976710656 * (p6 + p7) + 72057594037927936 * p7 := by
    clear e4 e5 f4 hp h3
    omega
  clear e4 e5 e6
  refine ⟨hx1.1, hx1.2, by omega, by omega, by omega, by omega, ?_⟩
  rw [hp, f6]
  clear f4 f5 f6 h3 hx1 hp
  omega
end Ones
end Go.Proofs.Ytkcknoodcgmndaa

end
section
/- math/bits.OnesCount64, in general. -/
namespace Go.Proofs.Ytkcknoodcgmndaa
open Go.Conc Go.RowKit
set_option linter.unusedVariables false
set_option linter.unusedSimpArgs false
set_option maxRecDepth 100000
set_option maxHeartbeats 4000000













section
variable {Shun : Loc → Prop}
theorem ones_W (v : Nat) (hv : v < 2 ^ 64) (w : World) : CW Shun 46 #[.int .u64 v] w (fun r w' => r = .int .i64 ((Ones.popc 64 v : Nat) : Int) ∧ AtRel w w') := by
  have T9 := termsP Shun
  obtain ⟨b1, b2, b3, b4, b5, b6, hp⟩ := Ones.swar v hv
  obtain ⟨p1, hp1⟩ : ∃ p1 : Nat, p1 = (v / 2) &&& 6148914691236517205 := ⟨_, rfl⟩
  obtain ⟨r1, hr1⟩ : ∃ r1 : Nat, r1 = v &&& 6148914691236517205 := ⟨_, rfl⟩
  rw [← hp1, ← hr1] at b1 b2 b3 b4 b5 b6 hp
  have e1 : bits .and .u64 ((v : Int) / 2) 6148914691236517205 = (p1 : Int) := by rw [hp1]; exact u64_and_nat (v / 2) 6148914691236517205 (by omega) (by omega)
  have e2 : bits .and .u64 (v : Int) 6148914691236517205 = (r1 : Int) := by rw [hr1]; exact u64_and_nat v 6148914691236517205 (by omega) (by omega)
  obtain ⟨x1, hx1⟩ : ∃ x1 : Nat, x1 = p1 + r1 := ⟨_, rfl⟩
  rw [← hx1] at b1 b2 b3 b4 b5 b6 hp
  have e3 : IntKind.u64.wrap ((p1 : Int) + (r1 : Int)) = (x1 : Int) := by rw [IntKind.wrap_u64]; omega
  obtain ⟨p2, hp2⟩ : ∃ p2 : Nat, p2 = (x1 / 4) &&& 3689348814741910323 := ⟨_, rfl⟩
  obtain ⟨r2, hr2⟩ : ∃ r2 : Nat, r2 = x1 &&& 3689348814741910323 := ⟨_, rfl⟩
  rw [← hp2, ← hr2] at b2 b3 b4 b5 b6 hp
  have e4 : bits .and .u64 ((x1 : Int) / 4) 3689348814741910323 = (p2 : Int) := by rw [hp2]; exact u64_and_nat (x1 / 4) 3689348814741910323 (by omega) (by omega)
  have e5 : bits .and .u64 (x1 : Int) 3689348814741910323 = (r2 : Int) := by rw [hr2]; exact u64_and_nat x1 3689348814741910323 (by omega) (by omega)
  obtain ⟨x2, hx2⟩ : ∃ x2 : Nat, x2 = p2 + r2 := ⟨_, rfl⟩
  rw [← hx2] at b2 b3 b4 b5 b6 hp
  have e6 : IntKind.u64.wrap ((p2 : Int) + (r2 : Int)) = (x2 : Int) := by rw [IntKind.wrap_u64]; omega
  obtain ⟨s3, hs3⟩ : ∃ s3 : Nat, s3 = x2 / 16 + x2 := ⟨_, rfl⟩
  obtain ⟨x3, hx3⟩ : ∃ x3 : Nat, x3 = s3 &&& 1085102592571150095 := ⟨_, rfl⟩
  rw [← hs3, ← hx3] at b3 b4 b5 b6 hp
  have e7 : IntKind.u64.wrap ((x2 : Int) / 16 + (x2 : Int)) = (s3 : Int) := by rw [IntKind.wrap_u64]; omega
  have e8 : bits .and .u64 (s3 : Int) 1085102592571150095 = (x3 : Int) := by rw [hx3]; exact u64_and_nat s3 1085102592571150095 (by omega) (by omega)
  obtain ⟨x4, hx4⟩ : ∃ x4 : Nat, x4 = x3 / 256 + x3 := ⟨_, rfl⟩
  rw [← hx4] at b4 b5 b6 hp
  have e9 : IntKind.u64.wrap ((x3 : Int) + (x3 : Int) / 256) = (x4 : Int) := by rw [IntKind.wrap_u64]; omega
  obtain ⟨x5, hx5⟩ : ∃ x5 : Nat, x5 = x4 / 65536 + x4 := ⟨_, rfl⟩
  rw [← hx5] at b5 b6 hp
  have e10 : IntKind.u64.wrap ((x4 : Int) + (x4 : Int) / 65536) = (x5 : Int) := by rw [IntKind.wrap_u64]; omega
  obtain ⟨x6, hx6⟩ : ∃ x6 : Nat, x6 = x5 / 4294967296 + x5 := ⟨_, rfl⟩
  rw [← hx6] at b6 hp
  have e11 : IntKind.u64.wrap ((x5 : Int) + (x5 : Int) / 4294967296) = (x6 : Int) := by rw [IntKind.wrap_u64]; omega
  have e12 : IntKind.i64.wrap (x6 : Int) = (x6 : Int) := by rw [IntKind.wrap_i64]; omega
  have e13 : bits .and .i64 (x6 : Int) 127 = ((Ones.popc 64 v : Nat) : Int) := by
    rw [i64_and127, ← hp]
    omega
  clear b1 b2 b3 b4 b5 b6 hp hp1 hr1 hx1 hp2 hr2 hx2 hs3 hx3 hx4 hx5 hx6
  generalize Ones.popc 64 v = u at *
  refine callsW_enter Try.func46 (by kernel_rfl) rfl ?_
  simp only [Try.ntmps46]
  walk_nrm
  have hF := atRel_refl w
  (repeat (first | (refine codeW_seq T9 ?_) | (refine codeW_region T9 ?_; simp only [List.size_toArray, List.length_cons, List.length_nil, Nat.reduceAdd, Nat.zero_add, List.range, List.range.loop]) | (refine opsW_nil T9 ?_; simp only [Exit.then, Exit.inBlock]) | (refine codeW_skip T9 ?_; simp only [Exit.then]) | ((first | refine codeW_cond T9 (t := true) rfl ?_ | refine codeW_cond T9 (t := false) rfl ?_); simp only [if_true, if_false, Bool.false_eq_true, ↓reduceIte]) | (refine opsW_unwanted T9 rfl (by rfl) ?_; try walk_nrm) | (refine opsW_cons rfl (by rfl) ?_; intro _ hR K hK; replace hF := atRel_trans _ _ _ hF hR; clear hR; have hs9 := atRel_size hF; go_simp; refine hK _ _ ⟨?_, ?_⟩; (· rw [listed_nil (by simp [go_sem, *])]; exact dp0_nil); clear hK K hs9; try walk_nrm) | (refine codeW_block T9 ?_)))
  (refine codeW_ret T9 ?_)
  exact ⟨rfl, _, resultsC_tmp rfl _, rfl, hF⟩
end
end Go.Proofs.Ytkcknoodcgmndaa

end
