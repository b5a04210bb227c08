/- Contracts of the reference's Get, Judge, Put, Set; of All, Len; of the law's like. -/
import Derived.Test.YtcmaekkfeilclaaSesP
namespace Go.Proofs.Ytcmaekkfeilclaa
open Go.RowKit
set_option linter.unusedSimpArgs false
set_option linter.unusedVariables false
set_option maxHeartbeats 1000000
set_option maxRecDepth 100000
attribute [local go_sem] Rw.agg Rw.cells

/-- the k-th row of a slice of rows, as cells -/
theorem rows_at {w : World} {B n : Nat} {A : Option Addr} {l : List Rw} (h : Reads w B 5 A n (l.flatMap Rw.vals)) {k : Nat} (hk : k < n) :
    ∃ b off r, A = some ⟨b, off, none⟩ ∧ b < B ∧ l[k]? = some r ∧ RowCells w b (off + k * 5) r := by
  obtain ⟨b, off, r, hA, hb, hr, hc⟩ := reads_at Rw.vals Rw.vals_len (by omega) h hk
  exact ⟨b, off, r, hA, hb, hr, by have := hc 0 _ rfl; simpa using this, hc 1 _ rfl, hc 2 _ rfl, hc 3 _ rfl, hc 4 _ rfl⟩
theorem rows_len {w : World} {B n : Nat} {A : Option Addr} {l : List Rw} (h : Reads w B 5 A n (l.flatMap Rw.vals)) : l.length = n := flat_len Rw.vals Rw.vals_len (by omega) h

theorem findO_step (l : List Rw) (who : Int) (k : Nat) (r : Rw) (h : l[k]? = some r) (hn : findO (l.take k) who = none) : findO (l.take (k + 1)) who = if r.c == who then some r else none := by
  rw [List.take_add_one, h, findO_app, hn]
  simp only [Option.toList_some, Option.none_or, findO, List.find?_cons, List.find?_nil]
  cases (r.c == who) <;> rfl
theorem findO_found (l : List Rw) (who : Int) (k : Nat) (r : Rw) (h : l[k]? = some r) (hn : findO (l.take k) who = none) (he : (r.c == who) = true) : findO l who = some r := by
  have h1 := findO_step l who k r h hn
  rw [he, if_pos rfl] at h1
  rw [← List.take_append_drop (k + 1) l, findO_app, h1]
  rfl

theorem sesRefGet_any (A : Option Addr) (n c B : Nat) (l : List Rw) (who : Int) (w : World) (hn : n ≤ 9223372036854775807) (hB : B ≤ w.heap.size) (h : Reads w B 5 A n (l.flatMap Rw.vals)) :
    Calls Try.prog 15 #[.slice A n c, .int .i64 who] w fun e w' => e = .returned (.tuple #[(findR l who).agg, .bool (findB l who)]) ∧ w.alloc (.cells (findR l who).cells 31) = w' := by
  have H := Lib.hid h
  have HL := Lib.hid (rows_len h)
  clear h
  go_enter Try.func15, Try.ntmps15
  go_wp2
  go_loop [6] (fun i => ∃ k : Nat, k ≤ n ∧ i = .int .i64 k ∧ Hid (findO (l.take k) who = none)) (fun i => n - (intOf i).toNat)
  case atStart => exact ⟨0, by omega, rfl, Lib.hid (by simp [findO])⟩
  case round =>
    obtain ⟨k, hk, rfl, hno⟩ := hrel
    by_cases hlt : k < n
    · obtain ⟨b, off, r, rfl, hb, hr, hc⟩ := rows_at H.out hlt
      obtain ⟨c0, c1, c2, c3, c4⟩ := hc
      have hbw : b < w.heap.size := by omega
      have HR := Lib.hid hr
      clear hr
      cases he : (r.c == who)
      · have hs := Lib.hid (findO_step l who k r HR.out hno.out)
        have HE := Lib.hid he
        go_wp2
        go_round
        case rel => exact ⟨k + 1, by omega, by go_num, Lib.hid (by rw [hs.out, HE.out]; rfl)⟩
        case measure => simp [intOf]; omega
      · have hs := Lib.hid (findO_found l who k r HR.out hno.out he)
        go_wp2
        refine bodyPost_ret (v := .tuple #[r.agg, .bool true]) (by simp [results, Try.results15, go_sem, Rw.agg]) rfl ⟨?_, ?_⟩
        · rw [findR, findB, hs.out]; rfl
        · rw [findR, hs.out]; rfl
    · have hs := Lib.hid hno.out
      go_wp2
      refine bodyPost_ret (v := .tuple #[Rw.zero.agg, .bool false]) (by simp [results, Try.results15, go_sem, Rw.agg, Rw.zero]) rfl ⟨?_, ?_⟩
      · have := hs.out
        rw [List.take_of_length_le (by rw [HL.out]; omega)] at this
        rw [findR, findB, this]; rfl
      · have := hs.out
        rw [List.take_of_length_le (by rw [HL.out]; omega)] at this
        rw [findR, this]; rfl

theorem refJudge_any (A : Option Addr) (n c B : Nat) (l : List Rw) (who num : Int) (w : World) (hn : n ≤ 9223372036854775807) (hB : B ≤ w.heap.size) (h : Reads w B 5 A n (l.flatMap Rw.vals)) :
    Calls Try.prog 19 #[.slice A n c, .int .i64 who, .int .u64 num] w fun e w' => e = .returned (.int .i64 (judgeL l who num)) ∧ Below w.heap.size w w' := by
  have H := Lib.hid h
  clear h
  cases h1 : decide (who < 1)
  rotate_left
  · have hj : Hid (2 = judgeL l who num) := Lib.hid (by rw [judgeL, if_neg]; intro x; have := (clientB_iff who).1 x.1; simp at h1; omega)
    go_enter Try.func19, Try.ntmps19
    go_wp2
    go_ret
    exact ⟨ret_int hj.out, Below.refl _ _⟩
  cases h2 : decide (6 < who)
  rotate_left
  · have hj : Hid (2 = judgeL l who num) := Lib.hid (by rw [judgeL, if_neg]; intro x; have := (clientB_iff who).1 x.1; simp at h2; omega)
    go_enter Try.func19, Try.ntmps19
    go_wp2
    go_ret
    exact ⟨ret_int hj.out, Below.refl _ _⟩
  have hc : Hid (clientB who = true) := Lib.hid ((clientB_iff who).2 (by simp at h1 h2; omega))
  by_cases h0 : num = 0
  · subst h0
    go_enter Try.func19, Try.ntmps19
    go_wp2
    go_ret
    exact ⟨ret_int (by rw [judgeL, if_neg (by simp)]), Below.refl _ _⟩
  · have h0' : (num == 0) = false := by simp [h0]
    have H0 := Lib.hid h0
    clear h0
    cases hb : findB l who
    · have hj : Hid (0 = judgeL l who num) := Lib.hid (by rw [judgeL, if_pos ⟨hc.out, H0.out⟩, if_pos (.inl hb)])
      go_enter Try.func19, Try.ntmps19
      go_wp2_with (first | (go_at_call 15; refine (sesRefGet_any A n c B l _ _ hn hB H.out).mono ?_; rintro e w' ⟨rfl, rfl⟩) | fail)
      go_ret
      exact ⟨ret_int hj.out, ((Below.refl _ _).alloc (Nat.le_refl _) _).alloc (by simp) _⟩
    · by_cases h3 : (findR l who).n < num
      · have hj : Hid (0 = judgeL l who num) := Lib.hid (by rw [judgeL, if_pos ⟨hc.out, H0.out⟩, if_pos (.inr h3)])
        go_enter Try.func19, Try.ntmps19
        go_wp2_with (first | (go_at_call 15; refine (sesRefGet_any A n c B l _ _ hn hB H.out).mono ?_; rintro e w' ⟨rfl, rfl⟩) | fail)
        go_ret
        exact ⟨ret_int hj.out, ((Below.refl _ _).alloc (Nat.le_refl _) _).alloc (by simp) _⟩
      · have h3' : decide ((findR l who).n < num) = false := by simpa using h3
        cases h4 : ((findR l who).n == num)
        · have hj : Hid (2 = judgeL l who num) := Lib.hid (by
            have h5 : ¬ (findR l who).n = num := by simpa using h4
            rw [judgeL, if_pos ⟨hc.out, H0.out⟩, if_neg (by rw [hb]; simp; omega), if_neg h5])
          clear h3
          go_enter Try.func19, Try.ntmps19
          go_wp2_with (first | (go_at_call 15; refine (sesRefGet_any A n c B l _ _ hn hB H.out).mono ?_; rintro e w' ⟨rfl, rfl⟩) | fail)
          go_ret
          exact ⟨ret_int hj.out, ((Below.refl _ _).alloc (Nat.le_refl _) _).alloc (by simp) _⟩
        · have hj : Hid (1 = judgeL l who num) := Lib.hid (by
            have h5 : (findR l who).n = num := by simpa using h4
            rw [judgeL, if_pos ⟨hc.out, H0.out⟩, if_neg (by rw [hb]; simp; omega), if_pos h5])
          clear h3
          go_enter Try.func19, Try.ntmps19
          go_wp2_with (first | (go_at_call 15; refine (sesRefGet_any A n c B l _ _ hn hB H.out).mono ?_; rintro e w' ⟨rfl, rfl⟩) | fail)
          go_ret
          exact ⟨ret_int hj.out, ((Below.refl _ _).alloc (Nat.le_refl _) _).alloc (by simp) _⟩

end Go.Proofs.Ytcmaekkfeilclaa
