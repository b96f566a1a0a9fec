/-
  The program's table of ticks, function by function, at every call.
-/
import Derived.Test.YtifhcnkadieboaaCostFn
import Derived.Test.YtifhcnkadieboaaShelf
import Derived.Handy
import Derived.Lib.Hide
namespace Go.Proofs.Ytifhcnkadieboaa
set_option linter.unusedSimpArgs false
set_option linter.unusedVariables false
open Go.RowKit RegJ

theorem ret_int {k : IntKind} {a b : Int} (h : a = b) : Ending.returned (.int k a) = .returned (.int k b) := by rw [h]
/-- behind a first call: the box of the argument is as it was -/
theorem box_below {w w1 : World} {cs : Array Value} {T : TypeId} (hb : Below (w.alloc (.cells cs T)).heap.size (w.alloc (.cells cs T)) w1) : Blk w1 w.heap.size cs T ∧ Below w.heap.size w w1 :=
  ⟨Blk.below hb (Blk.new w _ _) (by simp), ((Below.refl _ _).alloc (Nat.le_refl _) _).trans (hb.mono (by simp))⟩
/-- behind a later call -/
theorem box_below2 {w w1 w2 : World} {b : Nat} {cs : Array Value} {T : TypeId} (h : Blk w1 b cs T) (hw : Below w.heap.size w w1) (hb : Below w1.heap.size w1 w2) : Blk w2 b cs T ∧ Below w.heap.size w w2 :=
  ⟨Blk.below hb h h.lt, hw.trans (hb.mono hw.size)⟩
theorem may_is {sys a b : Int} {s t : ByteArray} {v : Bool} (h : mayB sys a b s t = v) (w : World) : Calls Try.prog 15 #[.agg #[.int .i64 sys, .int .i64 a, .int .i64 b, .string s, .string t]] w fun e w' => e = .returned (.bool v) ∧ Below w.heap.size w w' := h ▸ may_any sys a b s t w

set_option maxRecDepth 100000 in
theorem moves_any (sys a b : Int) (s t : ByteArray) (w : World) :
    Calls Try.prog 17 #[.agg #[.int .i64 sys, .int .i64 a, .int .i64 b, .string s, .string t]] w fun e w' => e = .returned (.int .i64 (movesP sys a b s t)) ∧ Below w.heap.size w w' := by
  rcases Bool.eq_false_or_eq_true (mayB sys a b s t) with hm | hm
  · go_enter Try.func17, Try.ntmps17
    go_wp2_with (go_at_call 15; refine (may_is hm _).mono ?_; rintro e w1 ⟨rfl, hb⟩; obtain ⟨h1, hbb⟩ := box_below hb; have c1 := h1.rd; clear hb)
    all_goals
      go_ret
      refine ⟨ret_int ?_, hbb⟩
      clear c1 h1 hbb
      simp only [movesP, movesZ, hm]
      grind
  · go_enter Try.func17, Try.ntmps17
    go_wp2_with (go_at_call 15; refine (may_is hm _).mono ?_; rintro e w1 ⟨rfl, hb⟩; obtain ⟨h1, hbb⟩ := box_below hb; have c1 := h1.rd; clear hb)
    all_goals
      go_ret
      refine ⟨ret_int ?_, hbb⟩
      simp [movesP, hm]

theorem movesP_le (sys a b : Int) (s t : ByteArray) : 0 ≤ movesP sys a b s t ∧ movesP sys a b s t ≤ 512 := by
  unfold movesP
  split
  · rename_i h; exact may_moves h
  · omega
theorem parts_eq {sys a b : Int} {s t : ByteArray} (hm : mayB sys a b s t = true) : max ((movesP sys a b s t + 63) / 64) 1 = partsF sys a b s t := by
  have := may_moves hm
  simp only [movesP, partsF, hm, if_true]
  split <;> omega
set_option maxRecDepth 100000 in
theorem parts_any (sys a b : Int) (s t : ByteArray) (w : World) :
    Calls Try.prog 7 #[.agg #[.int .i64 sys, .int .i64 a, .int .i64 b, .string s, .string t]] w fun e w' => e = .returned (.int .i64 (partsF sys a b s t)) ∧ Below w.heap.size w w' := by
  rcases Bool.eq_false_or_eq_true (mayB sys a b s t) with hm | hm
  · have hl := movesP_le sys a b s t
    obtain ⟨hl1, hl2⟩ := hl
    go_enter Try.func7, Try.ntmps7
    go_wp2_with (first | (go_at_call 15; refine (may_is hm _).mono ?_; rintro e w1 ⟨rfl, hb⟩; obtain ⟨h1, hbb⟩ := box_below hb; have c1 := h1.rd; clear hb) | (go_at_call 17; refine (moves_any _ _ _ _ _ _).mono ?_; rintro e w2 ⟨rfl, hb2⟩; obtain ⟨h2, hbb2⟩ := box_below2 h1 hbb hb2; have c2 := h2.rd; clear hb2))
    go_ret
    exact ⟨ret_int (by have := parts_eq hm; omega), hbb2⟩
  · go_enter Try.func7, Try.ntmps7
    go_wp2_with (go_at_call 15; refine (may_is hm _).mono ?_; rintro e w1 ⟨rfl, hb⟩; obtain ⟨h1, hbb⟩ := box_below hb; have c1 := h1.rd; clear hb)
    all_goals
      go_ret
      refine ⟨ret_int ?_, hbb⟩
      simp [partsF, hm]

theorem bytes_eq {sys a b : Int} {s t : ByteArray} {p : Int} (h : ¬ (p < 0 ∨ partsF sys a b s t ≤ p)) : bytesF sys a b s t p = min (movesP sys a b s t - 64 * p) 64 := by
  unfold bytesF
  rw [if_neg h]
  simp only [movesP, parts_may h, if_true]
theorem bytes_none {sys a b : Int} {s t : ByteArray} {p : Int} (h : p < 0 ∨ partsF sys a b s t ≤ p) : bytesF sys a b s t p = 0 := by
  unfold bytesF
  rw [if_pos h]
theorem ticks_none {sys a b : Int} {s t : ByteArray} {p : Int} (h : p < 0 ∨ partsF sys a b s t ≤ p) : ticksF sys a b s t p = 0 := by
  unfold ticksF
  rw [if_pos h]
set_option maxRecDepth 100000 in
theorem cbytes_any (sys a b : Int) (s t : ByteArray) (p : Int) (w : World) :
    Calls Try.prog 9 #[.agg #[.int .i64 sys, .int .i64 a, .int .i64 b, .string s, .string t], .int .i64 p] w fun e w' => e = .returned (.int .i64 (bytesF sys a b s t p)) ∧ Below w.heap.size w w' := by
  obtain ⟨hp1, hp2⟩ := parts_le sys a b s t
  obtain ⟨hl1, hl2⟩ := movesP_le sys a b s t
  by_cases hn : p < 0
  · have H := Lib.hid (bytes_none (sys := sys) (a := a) (b := b) (s := s) (t := t) (Or.inl hn))
    go_enter Try.func9, Try.ntmps9
    go_wp2
    go_ret
    exact ⟨ret_int H.out.symm, (Below.refl _ _).alloc (Nat.le_refl _) _⟩
  · by_cases hq : partsF sys a b s t ≤ p
    · have H := Lib.hid (bytes_none (sys := sys) (a := a) (b := b) (s := s) (t := t) (Or.inr hq))
      go_enter Try.func9, Try.ntmps9
      go_wp2_with (go_at_call 7; refine (parts_any _ _ _ _ _ _).mono ?_; rintro e w1 ⟨rfl, hb⟩; obtain ⟨h1, hbb⟩ := box_below hb; have c1 := h1.rd; clear hb)
      go_ret
      exact ⟨ret_int H.out.symm, hbb⟩
    · have H := Lib.hid (bytes_eq (sys := sys) (a := a) (b := b) (s := s) (t := t) (p := p) (by omega))
      have hp3 : 0 ≤ p := by omega
      have hp4 : p < partsF sys a b s t := by omega
      go_enter Try.func9, Try.ntmps9
      go_wp2_with (first | (go_at_call 7; refine (parts_any _ _ _ _ _ _).mono ?_; rintro e w1 ⟨rfl, hb⟩; obtain ⟨h1, hbb⟩ := box_below hb; have c1 := h1.rd; clear hb) | (go_at_call 17; refine (moves_any _ _ _ _ _ _).mono ?_; rintro e w2 ⟨rfl, hb2⟩; obtain ⟨h2, hbb2⟩ := box_below2 h1 hbb hb2; have c2 := h2.rd; clear hb2))
      go_ret
      exact ⟨ret_int H.out.symm, hbb2⟩

theorem cnt_i64 (s : ByteArray) (w : World) : Calls Try.prog 24 #[.string s, .string ⟨#[47]⟩] w fun e w' => e = .returned (.int .i64 (cnt s)) ∧ w = w' :=
  (Try.strings_Count_one s 47 w).mono fun _ _ ⟨h1, h2⟩ => ⟨h1, h2.symm⟩

set_option maxRecDepth 100000 in
theorem slashes_one (s : ByteArray) (hs : s.size ≤ 100) (blk : Nat) (w : World) (h : Blk w blk #[.string s] 9) :
    Calls Try.prog 20 #[.slice (some ⟨blk, 0, none⟩) 1 1] w fun e w' => e = .returned (.int .i64 (min (cnt s) 6)) ∧ w = w' := by
  obtain ⟨k1, k2⟩ := cnt_le s
  have c1 := h.rd
  go_enter Try.func20, Try.ntmps20
  go_wp2
  refine wp_loop_rounds 2 ?_
  rw [rounds_succ]
  go_wp2_with (go_at_call 24; refine (cnt_i64 _ _).mono ?_; rintro e w1 ⟨rfl, rfl⟩)
  rw [rounds_succ]
  go_wp2
  go_ret
  exact ⟨ret_int (by omega), rfl⟩
set_option maxRecDepth 100000 in
theorem slashes_two (s t : ByteArray) (hs : s.size ≤ 100) (ht : t.size ≤ 100) (blk : Nat) (w : World) (h : Blk w blk #[.string s, .string t] 9) :
    Calls Try.prog 20 #[.slice (some ⟨blk, 0, none⟩) 2 2] w fun e w' => e = .returned (.int .i64 (min (cnt s + cnt t) 6)) ∧ w = w' := by
  obtain ⟨k1, k2⟩ := cnt_le s
  obtain ⟨k3, k4⟩ := cnt_le t
  have c1 := h.rd
  go_enter Try.func20, Try.ntmps20
  go_wp2
  refine wp_loop_rounds 3 ?_
  rw [rounds_succ]
  go_wp2_with (go_at_call 24; refine (cnt_i64 _ _).mono ?_; rintro e w1 ⟨rfl, rfl⟩)
  rw [rounds_succ]
  go_wp2_with (go_at_call 24; refine (cnt_i64 _ _).mono ?_; rintro e w1 ⟨rfl, rfl⟩)
  rw [rounds_succ]
  go_wp2
  go_ret
  exact ⟨ret_int (by omega), rfl⟩

theorem ticks_some {sys a b : Int} {s t : ByteArray} {p : Int} (h : ¬ (p < 0 ∨ partsF sys a b s t ≤ p)) : ticksF sys a b s t p =
    (if sys = 3 ∨ sys = 4 then 2 + (bytesF sys a b s t p + 15) / 16
  else if sys = 1 ∨ sys = 8 ∨ sys = 9 ∨ sys = 10 ∨ sys = 12 ∨ sys = 13 then 2 + min (cnt s) 6
  else if sys = 7 then 2 + min (cnt s + cnt t) 6
  else if sys = 14 then 4
  else 2) := by
  unfold ticksF
  rw [if_neg h]
set_option maxRecDepth 100000 in
set_option maxHeartbeats 400000 in
theorem ticks_any (sys a b : Int) (s t : ByteArray) (p : Int) (w : World) :
    Calls Try.prog 11 #[.agg #[.int .i64 sys, .int .i64 a, .int .i64 b, .string s, .string t], .int .i64 p] w fun e w' => e = .returned (.int .i64 (ticksF sys a b s t p)) ∧ Below w.heap.size w w' := by
  obtain ⟨hp1, hp2⟩ := parts_le sys a b s t
  obtain ⟨hl1, hl2⟩ := bytes_le sys a b s t p
  by_cases hn : p < 0
  · have H := Lib.hid (ticks_none (sys := sys) (a := a) (b := b) (s := s) (t := t) (Or.inl hn))
    go_enter Try.func11, Try.ntmps11
    go_wp2
    go_ret
    exact ⟨ret_int H.out.symm, (Below.refl _ _).alloc (Nat.le_refl _) _⟩
  · by_cases hq : partsF sys a b s t ≤ p
    · have H := Lib.hid (ticks_none (sys := sys) (a := a) (b := b) (s := s) (t := t) (Or.inr hq))
      go_enter Try.func11, Try.ntmps11
      go_wp2_with (go_at_call 7; refine (parts_any _ _ _ _ _ _).mono ?_; rintro e w1 ⟨rfl, hb⟩; obtain ⟨h1, hbb⟩ := box_below hb; have c1 := h1.rd; clear hb)
      go_ret
      exact ⟨ret_int H.out.symm, hbb⟩
    · have H := Lib.hid (ticks_some (sys := sys) (a := a) (b := b) (s := s) (t := t) (p := p) (by omega))
      have hp3 : 0 ≤ p := by omega
      have hp4 : p < partsF sys a b s t := by omega
      have hmay := Lib.hid (parts_may (sys := sys) (a := a) (b := b) (s := s) (t := t) (p := p) (by omega))
      obtain ⟨k1, k2⟩ := cnt_le s
      obtain ⟨k3, k4⟩ := cnt_le t
      by_cases hA : sys = 3 ∨ sys = 4
      · rcases hA with rfl | rfl
        all_goals
          go_enter Try.func11, Try.ntmps11
          go_wp2_with (first | (go_at_call 7; refine (parts_any _ _ _ _ _ _).mono ?_; rintro e w1 ⟨rfl, hb⟩; obtain ⟨h1, hbb⟩ := box_below hb; have c1 := h1.rd; clear hb) | (go_at_call 9; refine (cbytes_any _ _ _ _ _ _ _).mono ?_; rintro e w2 ⟨rfl, hb2⟩; obtain ⟨h2, hbb2⟩ := box_below2 h1 hbb hb2; have c2 := h2.rd; clear hb2))
          go_ret
          exact ⟨ret_int (by rw [H.out]; simp), hbb2⟩
      · by_cases hB : sys = 1 ∨ sys = 8 ∨ sys = 9 ∨ sys = 10 ∨ sys = 12 ∨ sys = 13
        · have hs := may_one hmay.out hB
          rcases hB with rfl | rfl | rfl | rfl | rfl | rfl
          all_goals
            go_enter Try.func11, Try.ntmps11
            go_wp2_with (first | (go_at_call 7; refine (parts_any _ _ _ _ _ _).mono ?_; rintro e w1 ⟨rfl, hb⟩; obtain ⟨h1, hbb⟩ := box_below hb; have c1 := h1.rd; clear hb) | (go_at_call 20; refine (slashes_one _ hs _ _ (Blk.new _ _ _)).mono ?_; rintro e w2 ⟨rfl, rfl⟩; have hbb2 := hbb.alloc (Nat.le_of_lt h1.lt) (.cells #[.string s] 9)))
            go_ret
            exact ⟨ret_int (by rw [H.out]; simp), hbb2⟩
        · by_cases hC : sys = 7
          · subst hC
            obtain ⟨hs, ht⟩ := may_two hmay.out
            go_enter Try.func11, Try.ntmps11
            go_wp2_with (first | (go_at_call 7; refine (parts_any _ _ _ _ _ _).mono ?_; rintro e w1 ⟨rfl, hb⟩; obtain ⟨h1, hbb⟩ := box_below hb; have c1 := h1.rd; clear hb) | (go_at_call 20; refine (slashes_two _ _ hs ht _ _ (Blk.new _ _ _)).mono ?_; rintro e w2 ⟨rfl, rfl⟩; have hbb2 := hbb.alloc (Nat.le_of_lt h1.lt) (.cells #[.string s, .string t] 9)))
            go_ret
            exact ⟨ret_int (by rw [H.out]; simp), hbb2⟩
          · by_cases hD : sys = 14
            · subst hD
              go_enter Try.func11, Try.ntmps11
              go_wp2_with (go_at_call 7; refine (parts_any _ _ _ _ _ _).mono ?_; rintro e w1 ⟨rfl, hb⟩; obtain ⟨h1, hbb⟩ := box_below hb; have c1 := h1.rd; clear hb)
              go_ret
              exact ⟨ret_int (by rw [H.out]; simp), hbb⟩
            · have H2 : Hid (ticksF sys a b s t p = 2) := by
                show ticksF sys a b s t p = 2
                rw [H.out, if_neg hA, if_neg hB, if_neg hC, if_neg hD]
              have n1 : (sys == 1) = false := by simp; omega
              have n3 : (sys == 3) = false := by simp; omega
              have n4 : (sys == 4) = false := by simp; omega
              have n7 : (sys == 7) = false := by simp; omega
              have n8 : (sys == 8) = false := by simp; omega
              have n9 : (sys == 9) = false := by simp; omega
              have n10 : (sys == 10) = false := by simp; omega
              have n12 : (sys == 12) = false := by simp; omega
              have n13 : (sys == 13) = false := by simp; omega
              have n14 : (sys == 14) = false := by simp; omega
              clear hA hB hC hD
              go_enter Try.func11, Try.ntmps11
              go_wp2_with (go_at_call 7; refine (parts_any _ _ _ _ _ _).mono ?_; rintro e w1 ⟨rfl, hb⟩; obtain ⟨h1, hbb⟩ := box_below hb; have c1 := h1.rd; clear hb)
              go_ret
              exact ⟨ret_int H2.out.symm, hbb⟩

theorem bound_succ (sys a b : Int) (s t : ByteArray) (k : Nat) : boundF sys a b s t (k + 1) = boundF sys a b s t k + ticksF sys a b s t k := rfl
set_option maxRecDepth 100000 in
theorem bound_any (sys a b : Int) (s t : ByteArray) (w : World) :
    Calls Try.prog 13 #[.agg #[.int .i64 sys, .int .i64 a, .int .i64 b, .string s, .string t]] w fun e w' => e = .returned (.int .i64 (boundF sys a b s t (partsF sys a b s t).toNat)) ∧ Below w.heap.size w w' := by
  obtain ⟨hp1, hp2⟩ := parts_le sys a b s t
  go_enter Try.func13, Try.ntmps13
  go_wp2_with (go_at_call 7; refine (parts_any _ _ _ _ _ _).mono ?_; rintro e w1 ⟨rfl, hb⟩; obtain ⟨h1, hbb⟩ := box_below hb; have c1 := h1.rd; clear hb)
  go_loopw [3, 7] (fun n i wr => ∃ k : Nat, (k : Int) ≤ partsF sys a b s t ∧ i = .int .i64 k ∧ n = .int .i64 (boundF sys a b s t k) ∧ Below w.heap.size w wr ∧ Blk wr w.heap.size #[.int .i64 sys, .int .i64 a, .int .i64 b, .string s, .string t] 23) (fun _ i _ => (partsF sys a b s t - intOf i).toNat)
  case atStart => exact ⟨0, by omega, rfl, rfl, hbb, h1⟩
  case round =>
    obtain ⟨k, hk, rfl, rfl, hb3, h3⟩ := hrel
    obtain ⟨hb1, hb2⟩ := bound_le sys a b s t k
    obtain ⟨ht1, ht2⟩ := ticks_le sys a b s t k
    have c3 := h3.rd
    clear c1
    by_cases hlt : (k : Int) < partsF sys a b s t
    · go_wp2_with (go_at_call 11; refine (ticks_any _ _ _ _ _ _ _).mono ?_; rintro e w4 ⟨rfl, hb4⟩; obtain ⟨h4, hbb4⟩ := box_below2 h3 hb3 hb4; clear hb4)
      go_roundw
      case rel => exact ⟨k + 1, by omega, by go_num, by rw [bound_succ], hbb4, h4⟩
      case measure => simp [intOf]; omega
    · have e : (partsF sys a b s t).toNat = k := by omega
      have H := Lib.hid e
      clear e
      go_wp2
      go_ret
      exact ⟨ret_int (by rw [H.out]), hb3⟩
end Go.Proofs.Ytifhcnkadieboaa
