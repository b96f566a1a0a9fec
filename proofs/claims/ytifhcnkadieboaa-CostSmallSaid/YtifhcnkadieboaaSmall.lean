/-
  CostSmall: no part takes more ticks than a section may, each that is one two at least; together they move what the call asks and take what is told.
-/
import Derived.Test.YtifhcnkadieboaaTells
namespace Go.Proofs.Ytifhcnkadieboaa
set_option linter.unusedSimpArgs false
set_option linter.unusedVariables false
open Go.RowKit RegJ

def sumB (sys a b : Int) (s t : ByteArray) : Nat → Int
  | 0 => 0
  | k + 1 => sumB sys a b s t k + bytesF sys a b s t k
theorem sumB_succ (sys a b : Int) (s t : ByteArray) (k : Nat) : sumB sys a b s t (k + 1) = sumB sys a b s t k + bytesF sys a b s t k := rfl
theorem sumB_eq (sys a b : Int) (s t : ByteArray) (k : Nat) (hk : (k : Int) ≤ partsF sys a b s t) : sumB sys a b s t k = min (64 * (k : Int)) (movesP sys a b s t) := by
  have hl := movesP_le sys a b s t
  induction k with
  | zero => simp [sumB]; omega
  | succ k ih =>
    rw [sumB_succ, ih (by omega)]
    have h : ¬ ((k : Int) < 0 ∨ partsF sys a b s t ≤ k) := by omega
    rw [bytes_eq h]
    have hm := parts_may h
    have hp := parts_eq hm
    omega
theorem sumB_le (sys a b : Int) (s t : ByteArray) (k : Nat) (hk : (k : Int) ≤ partsF sys a b s t) : 0 ≤ sumB sys a b s t k ∧ sumB sys a b s t k ≤ 512 := by
  have hl := movesP_le sys a b s t
  rw [sumB_eq sys a b s t k hk]
  omega
theorem sumB_all (sys a b : Int) (s t : ByteArray) (k : Nat) (hk : partsF sys a b s t = k) : sumB sys a b s t k = movesP sys a b s t := by
  have hl := movesP_le sys a b s t
  rw [sumB_eq sys a b s t k (by omega)]
  rcases Bool.eq_false_or_eq_true (mayB sys a b s t) with hm | hm
  · have hp := parts_eq hm
    omega
  · have h0 : partsF sys a b s t = 0 := by simp [partsF, hm]
    have h1 : movesP sys a b s t = 0 := by simp [movesP, hm]
    omega
theorem ticks_ge {sys a b : Int} {s t : ByteArray} {p : Int} (h : ¬ (p < 0 ∨ partsF sys a b s t ≤ p)) : 2 ≤ ticksF sys a b s t p := by
  have hb := bytes_le sys a b s t p
  have h1 := cnt_le s
  have h2 := cnt_le t
  rw [ticks_some h]
  repeat' split
  all_goals omega
theorem may_parts {sys a b : Int} {s t : ByteArray} (hm : mayB sys a b s t = true) : 0 < partsF sys a b s t := by
  have := parts_eq hm
  omega

set_option maxRecDepth 100000 in
set_option maxHeartbeats 1000000 in
theorem small_in (sys a b : Int) (s t : ByteArray) (v : Bool) (hm : mayB sys a b s t = v) (hv : decide (0 < partsF sys a b s t) = v) (hs : s.size ≤ 2000) (ht : t.size ≤ 2000) (w : World) :
    Calls Try.prog 4 #[.agg #[.int .i64 sys, .int .i64 a, .int .i64 b, .string s, .string t]] w fun e w' => e = .returned (.bool true) ∧ Below w.heap.size w w' := by
  obtain ⟨hp1, hp2⟩ := parts_le sys a b s t
  have hm2 := Lib.hid hm
  clear hm
  go_enter Try.func4, Try.ntmps4
  go_wp2_with (first | (go_at_call 7; (with_reducible refine (parts_any _ _ _ _ _ _).mono ?_); rintro e w1 ⟨rfl, hb⟩; obtain ⟨hw1, hbw1⟩ := box_below hb; have cw1 := hw1.rd; clear hb) | (go_at_call 15; (with_reducible refine (may_is hm2.out _).mono ?_); rintro e w2 ⟨rfl, hb⟩; obtain ⟨hw2, hbw2⟩ := box_below2 hw1 hbw1 hb; have cw2 := hw2.rd; clear hb))
  go_loopw [4, 5, 6] (fun n m i wr => ∃ k : Nat, (k : Int) ≤ partsF sys a b s t ∧ i = .int .i64 k ∧ n = .int .i64 (boundF sys a b s t k) ∧ m = .int .i64 (sumB sys a b s t k) ∧ Below w.heap.size w wr ∧ Blk wr w.heap.size #[.int .i64 sys, .int .i64 a, .int .i64 b, .string s, .string t] 23) (fun _ _ i _ => (partsF sys a b s t - intOf i).toNat)
  case atStart => exact ⟨0, by omega, rfl, rfl, rfl, hbw2, hw2⟩
  case round =>
    obtain ⟨k, hk, rfl, rfl, rfl, hb3, h3⟩ := hrel
    obtain ⟨hb1, hb2⟩ := bound_le sys a b s t k
    obtain ⟨ht1, ht2⟩ := ticks_le sys a b s t k
    obtain ⟨hy1, hy2⟩ := bytes_le sys a b s t k
    obtain ⟨hz1, hz2⟩ := sumB_le sys a b s t k hk
    have c3 := h3.rd
    clear cw1 cw2 hw1 hw2 hbw1 hbw2
    by_cases hlt : (k : Int) < partsF sys a b s t
    · have hg := ticks_ge (sys := sys) (a := a) (b := b) (s := s) (t := t) (p := k) (by omega)
      go_wp2_with (first | (go_at_call 11; (with_reducible refine (ticks_any _ _ _ _ _ _ _).mono ?_); rintro e w4 ⟨rfl, hb4⟩; obtain ⟨h4, hbb4⟩ := box_below2 h3 hb3 hb4; have c4 := h4.rd; clear hb4) | (go_at_call 9; (with_reducible refine (cbytes_any _ _ _ _ _ _ _).mono ?_); rintro e w5 ⟨rfl, hb5⟩; obtain ⟨h5, hbb5⟩ := box_below2 h4 hbb4 hb5; clear hb5))
      go_roundw
      case rel => exact ⟨k + 1, by omega, by go_num, by rw [bound_succ], by rw [sumB_succ], hbb5, h5⟩
      case measure => simp [intOf]; omega
    · have e : partsF sys a b s t = k := by omega
      have H1 := Lib.hid (show ticksF sys a b s t (partsF sys a b s t) = 0 from ticks_none (Or.inr (Int.le_refl _)))
      have H2 := Lib.hid (show ticksF sys a b s t (-1) = 0 from ticks_none (Or.inl (by decide)))
      have H3 := Lib.hid (show boundF sys a b s t (partsF sys a b s t).toNat = boundF sys a b s t k by rw [e]; rfl)
      rw [sumB_all sys a b s t k e]
      have H4 := Lib.hid (show movesP sys a b s t = if v = true then movesZ sys b s else 0 by unfold movesP; rw [hm2.out])
      clear e hz1 hz2
      rcases Bool.eq_false_or_eq_true v with rfl | rfl
      · by_cases h3s : sys = 3
        · subst h3s
          rw [show movesP 3 a b s t = b by rw [H4.out]; rfl]
          go_wp2_with (first | (go_at_call 11; (with_reducible refine (ticks_is H1.out _).mono ?_); rintro e w4 ⟨rfl, hb⟩; obtain ⟨h4, hb4⟩ := box_below2 h3 hb3 hb; have c4 := h4.rd; clear hb) | (go_at_call 11; (with_reducible refine (ticks_is H2.out _).mono ?_); rintro e w5 ⟨rfl, hb⟩; obtain ⟨h5, hb5⟩ := box_below2 h4 hb4 hb; have c5 := h5.rd; clear hb) | (go_at_call 13; (with_reducible refine (bound_is H3.out _).mono ?_); rintro e w6 ⟨rfl, hb⟩; obtain ⟨h6, hb6⟩ := box_below2 h5 hb5 hb; have c6 := h6.rd; clear hb) | (go_at_call 6; (with_reducible refine (awake_any _).mono ?_); rintro e w7 ⟨rfl, hb⟩; obtain ⟨h7, hb7⟩ := box_below2 h6 hb6 hb; have c7 := h7.rd; clear hb))
          go_ret
          exact ⟨rfl, hb7⟩
        · by_cases h4s : sys = 4
          · subst h4s
            rw [show movesP 4 a b s t = (s.size : Int) by rw [H4.out]; rfl]
            go_wp2_with (first | (go_at_call 11; (with_reducible refine (ticks_is H1.out _).mono ?_); rintro e w4 ⟨rfl, hb⟩; obtain ⟨h4, hb4⟩ := box_below2 h3 hb3 hb; have c4 := h4.rd; clear hb) | (go_at_call 11; (with_reducible refine (ticks_is H2.out _).mono ?_); rintro e w5 ⟨rfl, hb⟩; obtain ⟨h5, hb5⟩ := box_below2 h4 hb4 hb; have c5 := h5.rd; clear hb) | (go_at_call 13; (with_reducible refine (bound_is H3.out _).mono ?_); rintro e w6 ⟨rfl, hb⟩; obtain ⟨h6, hb6⟩ := box_below2 h5 hb5 hb; have c6 := h6.rd; clear hb) | (go_at_call 6; (with_reducible refine (awake_any _).mono ?_); rintro e w7 ⟨rfl, hb⟩; obtain ⟨h7, hb7⟩ := box_below2 h6 hb6 hb; have c7 := h7.rd; clear hb))
            go_ret
            exact ⟨rfl, hb7⟩
          · rw [show movesP sys a b s t = 0 by rw [H4.out]; simp [movesZ, h3s, h4s]]
            have n3 : (sys == 3) = false := by simp; omega
            have n4 : (sys == 4) = false := by simp; omega
            clear h3s h4s
            go_wp2_with (first | (go_at_call 11; (with_reducible refine (ticks_is H1.out _).mono ?_); rintro e w4 ⟨rfl, hb⟩; obtain ⟨h4, hb4⟩ := box_below2 h3 hb3 hb; have c4 := h4.rd; clear hb) | (go_at_call 11; (with_reducible refine (ticks_is H2.out _).mono ?_); rintro e w5 ⟨rfl, hb⟩; obtain ⟨h5, hb5⟩ := box_below2 h4 hb4 hb; have c5 := h5.rd; clear hb) | (go_at_call 13; (with_reducible refine (bound_is H3.out _).mono ?_); rintro e w6 ⟨rfl, hb⟩; obtain ⟨h6, hb6⟩ := box_below2 h5 hb5 hb; have c6 := h6.rd; clear hb) | (go_at_call 6; (with_reducible refine (awake_any _).mono ?_); rintro e w7 ⟨rfl, hb⟩; obtain ⟨h7, hb7⟩ := box_below2 h6 hb6 hb; have c7 := h7.rd; clear hb))
            go_ret
            exact ⟨rfl, hb7⟩
      · rw [show movesP sys a b s t = 0 by rw [H4.out]; rfl]
        go_wp2_with (first | (go_at_call 11; (with_reducible refine (ticks_is H1.out _).mono ?_); rintro e w4 ⟨rfl, hb⟩; obtain ⟨h4, hb4⟩ := box_below2 h3 hb3 hb; have c4 := h4.rd; clear hb) | (go_at_call 11; (with_reducible refine (ticks_is H2.out _).mono ?_); rintro e w5 ⟨rfl, hb⟩; obtain ⟨h5, hb5⟩ := box_below2 h4 hb4 hb; have c5 := h5.rd; clear hb) | (go_at_call 13; (with_reducible refine (bound_is H3.out _).mono ?_); rintro e w6 ⟨rfl, hb⟩; obtain ⟨h6, hb6⟩ := box_below2 h5 hb5 hb; have c6 := h6.rd; clear hb) | (go_at_call 6; (with_reducible refine (awake_any _).mono ?_); rintro e w7 ⟨rfl, hb⟩; obtain ⟨h7, hb7⟩ := box_below2 h6 hb6 hb; have c7 := h7.rd; clear hb))
        go_ret
        exact ⟨rfl, hb7⟩

set_option maxRecDepth 100000 in
theorem small_walk (sys a b : Int) (s t : ByteArray) (hs : s.size ≤ maxLen) (ht : t.size ≤ maxLen) (w : World) :
    Calls Try.prog 4 #[.agg #[.int .i64 sys, .int .i64 a, .int .i64 b, .string s, .string t]] w fun e w' => e = .returned (.bool true) ∧ Below w.heap.size w w' := by
  unfold maxLen at hs ht
  by_cases h1 : 2000 < s.size
  · go_enter Try.func4, Try.ntmps4
    go_wp2_with (go_at_call 6; refine (awake_any _).mono ?_; rintro e w1 ⟨rfl, hb⟩)
    go_ret
    exact ⟨rfl, ((Below.refl _ _).alloc (Nat.le_refl _) _).trans (hb.mono (by simp))⟩
  · by_cases h2 : 2000 < t.size
    · go_enter Try.func4, Try.ntmps4
      go_wp2_with (go_at_call 6; refine (awake_any _).mono ?_; rintro e w1 ⟨rfl, hb⟩)
      go_ret
      exact ⟨rfl, ((Below.refl _ _).alloc (Nat.le_refl _) _).trans (hb.mono (by simp))⟩
    · rcases Bool.eq_false_or_eq_true (mayB sys a b s t) with hm | hm
      · have := may_parts hm
        exact small_in sys a b s t true hm (by simp; omega) (by omega) (by omega) w
      · have h0 : partsF sys a b s t = 0 := by simp [partsF, hm]
        exact small_in sys a b s t false hm (by simp; omega) (by omega) (by omega) w
end Go.Proofs.Ytifhcnkadieboaa
