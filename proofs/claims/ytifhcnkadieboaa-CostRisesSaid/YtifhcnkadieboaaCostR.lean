/-
  The document's table of ticks, function by function, at every call.
-/
import Derived.Test.YtifhcnkadieboaaCostP
import Derived.Test.YtifhcnkadieboaaRMay
namespace Go.Proofs.Ytifhcnkadieboaa
set_option linter.unusedSimpArgs false
set_option linter.unusedVariables false
open Go.RowKit RegJ

theorem rmay_is {sys a b : Int} {s t : ByteArray} {v : Bool} (h : mayB sys a b s t = v) (w : World) : Calls Try.prog 18 #[.agg #[.int .i64 sys, .int .i64 a, .int .i64 b, .string s, .string t]] w fun e w' => e = .returned (.bool v) ∧ Below w.heap.size w w' := h ▸ rmay_any sys a b s t w
def movesR (sys b : Int) (s : ByteArray) : Int := if sys = 3 then b else if sys = 4 then (s.size : Int) else -1
set_option maxRecDepth 100000 in
theorem rmoves_any (sys a b : Int) (s t : ByteArray) (w : World) :
    Calls Try.prog 19 #[.agg #[.int .i64 sys, .int .i64 a, .int .i64 b, .string s, .string t]] w fun e w' => e = .returned (.int .i64 (movesR sys b s)) ∧ Below w.heap.size w w' := by
  go_enter Try.func19, Try.ntmps19
  go_wp2
  all_goals
    go_ret
    refine ⟨ret_int ?_, (Below.refl _ _).alloc (Nat.le_refl _) _⟩
    simp only [movesR]
    grind
theorem movesR_z {sys a b : Int} {s t : ByteArray} (hm : mayB sys a b s t = true) : (movesR sys b s = movesZ sys b s ∧ 0 ≤ movesR sys b s ∧ movesR sys b s ≤ 512) ∨ (movesR sys b s = -1 ∧ movesZ sys b s = 0) := by
  have h := may_moves hm
  unfold movesR movesZ at *
  split
  · rename_i h1; rw [if_pos h1] at h; left; exact ⟨rfl, h⟩
  · split
    · rename_i h1 h2; rw [if_neg h1, if_pos h2] at h; left; exact ⟨rfl, h⟩
    · right; exact ⟨rfl, rfl⟩
theorem parts_one {sys a b : Int} {s t : ByteArray} (hm : mayB sys a b s t = true) (h : movesR sys b s ≤ 64) : partsF sys a b s t = 1 := by
  have := movesR_z hm
  unfold partsF
  rw [if_pos hm, if_pos (by omega)]
theorem parts_more {sys a b : Int} {s t : ByteArray} (hm : mayB sys a b s t = true) (h : 64 < movesR sys b s) : partsF sys a b s t = (movesR sys b s + 63) / 64 := by
  have := movesR_z hm
  unfold partsF
  rw [if_pos hm, if_neg (by omega)]
  omega
set_option maxRecDepth 100000 in
theorem rparts_any (sys a b : Int) (s t : ByteArray) (w : World) :
    Calls Try.prog 8 #[.agg #[.int .i64 sys, .int .i64 a, .int .i64 b, .string s, .string t]] w fun e w' => e = .returned (.int .i64 (partsF sys a b s t)) ∧ Below w.heap.size w w' := by
  rcases Bool.eq_false_or_eq_true (mayB sys a b s t) with hm | hm
  · by_cases hl : movesR sys b s ≤ 64
    · have H := Lib.hid (parts_one hm hl)
      go_enter Try.func8, Try.ntmps8
      go_wp2_with (first | (go_at_call 18; refine (rmay_is hm _).mono ?_; rintro e w1 ⟨rfl, hb⟩; obtain ⟨h1, hbb⟩ := box_below hb; have c1 := h1.rd; clear hb) | (go_at_call 19; refine (rmoves_any _ _ _ _ _ _).mono ?_; rintro e w2 ⟨rfl, hb2⟩; obtain ⟨h2, hbb2⟩ := box_below2 h1 hbb hb2; have c2 := h2.rd; clear hb2))
      go_ret
      exact ⟨ret_int H.out.symm, hbb2⟩
    · have H := Lib.hid (parts_more hm (by omega))
      have hz := movesR_z hm
      have hl1 : 64 < movesR sys b s := by omega
      have hl2 : movesR sys b s ≤ 512 := by omega
      clear hz hl
      go_enter Try.func8, Try.ntmps8
      go_wp2_with (first | (go_at_call 18; refine (rmay_is hm _).mono ?_; rintro e w1 ⟨rfl, hb⟩; obtain ⟨h1, hbb⟩ := box_below hb; have c1 := h1.rd; clear hb) | (go_at_call 19; refine (rmoves_any _ _ _ _ _ _).mono ?_; rintro e w2 ⟨rfl, hb2⟩; obtain ⟨h2, hbb2⟩ := box_below2 h1 hbb hb2; have c2 := h2.rd; clear hb2))
      go_ret
      exact ⟨ret_int H.out.symm, hbb2⟩
  · go_enter Try.func8, Try.ntmps8
    go_wp2_with (go_at_call 18; refine (rmay_is hm _).mono ?_; rintro e w1 ⟨rfl, hb⟩; obtain ⟨h1, hbb⟩ := box_below hb; have c1 := h1.rd; clear hb)
    all_goals
      go_ret
      refine ⟨ret_int ?_, hbb⟩
      simp [partsF, hm]

theorem rbytes_neg {sys a b : Int} {s t : ByteArray} {p : Int} (h : ¬ (p < 0 ∨ partsF sys a b s t ≤ p)) (hr : movesR sys b s < 0) : bytesF sys a b s t p = 0 := by
  have hm := parts_may h
  have hz := movesR_z hm
  have h1 := parts_one hm (by omega)
  rw [bytes_eq h]
  simp only [movesP, hm, if_true]
  omega
theorem rbytes_pos {sys a b : Int} {s t : ByteArray} {p : Int} (h : ¬ (p < 0 ∨ partsF sys a b s t ≤ p)) (hr : ¬ movesR sys b s < 0) : bytesF sys a b s t p = min 64 (movesR sys b s - 64 * p) := by
  have hm := parts_may h
  have hz := movesR_z hm
  rw [bytes_eq h]
  simp only [movesP, hm, if_true]
  omega
set_option maxRecDepth 100000 in
theorem rbytes_any (sys a b : Int) (s t : ByteArray) (p : Int) (w : World) :
    Calls Try.prog 10 #[.agg #[.int .i64 sys, .int .i64 a, .int .i64 b, .string s, .string t], .int .i64 p] w fun e w' => e = .returned (.int .i64 (bytesF sys a b s t p)) ∧ Below w.heap.size w w' := by
  obtain ⟨hp1, hp2⟩ := parts_le sys a b s t
  by_cases hn : p < 0
  · have H := Lib.hid (bytes_none (sys := sys) (a := a) (b := b) (s := s) (t := t) (Or.inl hn))
    go_enter Try.func10, Try.ntmps10
    go_wp2
    go_ret
    exact ⟨ret_int H.out.symm, (Below.refl _ _).alloc (Nat.le_refl _) _⟩
  · by_cases hq : partsF sys a b s t ≤ p
    · have H := Lib.hid (bytes_none (sys := sys) (a := a) (b := b) (s := s) (t := t) (Or.inr hq))
      go_enter Try.func10, Try.ntmps10
      go_wp2_with (go_at_call 8; refine (rparts_any _ _ _ _ _ _).mono ?_; rintro e w1 ⟨rfl, hb⟩; obtain ⟨h1, hbb⟩ := box_below hb; have c1 := h1.rd; clear hb)
      go_ret
      exact ⟨ret_int H.out.symm, hbb⟩
    · have hp3 : 0 ≤ p := by omega
      have hp4 : p < partsF sys a b s t := by omega
      by_cases hr : movesR sys b s < 0
      · have H := Lib.hid (rbytes_neg (sys := sys) (a := a) (b := b) (s := s) (t := t) (p := p) (by omega) hr)
        go_enter Try.func10, Try.ntmps10
        go_wp2_with (first | (go_at_call 8; refine (rparts_any _ _ _ _ _ _).mono ?_; rintro e w1 ⟨rfl, hb⟩; obtain ⟨h1, hbb⟩ := box_below hb; have c1 := h1.rd; clear hb) | (go_at_call 19; refine (rmoves_any _ _ _ _ _ _).mono ?_; rintro e w2 ⟨rfl, hb2⟩; obtain ⟨h2, hbb2⟩ := box_below2 h1 hbb hb2; have c2 := h2.rd; clear hb2))
        go_ret
        exact ⟨ret_int H.out.symm, hbb2⟩
      · have H := Lib.hid (rbytes_pos (sys := sys) (a := a) (b := b) (s := s) (t := t) (p := p) (by omega) hr)
        have hz := movesR_z (parts_may (sys := sys) (a := a) (b := b) (s := s) (t := t) (p := p) (by omega))
        have hl1 : 0 ≤ movesR sys b s := by omega
        have hl2 : movesR sys b s ≤ 512 := by omega
        clear hz hr
        go_enter Try.func10, Try.ntmps10
        go_wp2_with (first | (go_at_call 8; refine (rparts_any _ _ _ _ _ _).mono ?_; rintro e w1 ⟨rfl, hb⟩; obtain ⟨h1, hbb⟩ := box_below hb; have c1 := h1.rd; clear hb) | (go_at_call 19; refine (rmoves_any _ _ _ _ _ _).mono ?_; rintro e w3 ⟨rfl, hb3⟩; obtain ⟨h3, hbb3⟩ := box_below2 h2 hbb2 hb3; have c3 := h3.rd; clear hb3) | (go_at_call 19; refine (rmoves_any _ _ _ _ _ _).mono ?_; rintro e w2 ⟨rfl, hb2⟩; obtain ⟨h2, hbb2⟩ := box_below2 h1 hbb hb2; have c2 := h2.rd; clear hb2))
        go_ret
        exact ⟨ret_int H.out.symm, hbb3⟩

def cntk (s : ByteArray) (k : Nat) : Int := ((s.data.toList.take k).count 47 : Nat)
theorem cntk_all (s : ByteArray) : cntk s s.size = cnt s := by
  unfold cntk cnt Lib.countByte
  rw [List.take_of_length_le (by rw [Lib.size_eq]; omega)]
theorem cntk_le (s : ByteArray) (k : Nat) : 0 ≤ cntk s k ∧ cntk s k ≤ k := by
  unfold cntk
  have h := List.count_le_length (a := (47 : UInt8)) (l := s.data.toList.take k)
  have h2 := List.length_take_le k s.data.toList
  omega
theorem cntk_succ (s : ByteArray) (k : Nat) (h : k < s.size) : cntk s (k + 1) = cntk s k + if (s[k].toNat : Int) = 47 then 1 else 0 := by
  unfold cntk
  have e : s.data.toList.take (k + 1) = s.data.toList.take k ++ [s[k]] := by
    rw [List.take_succ_eq_append_getElem (by rw [Lib.size_eq] at h; omega)]; rfl
  rw [e, List.count_append]
  by_cases h47 : s[k] = 47
  · rw [h47]; simp
  · have h2 : ¬ (s[k].toNat : Int) = 47 := fun h3 => h47 (by
      apply UInt8.toNat_inj.1; show s[k].toNat = 47; omega)
    rw [if_neg h2, List.count_singleton]
    simp [h47]
theorem cntk_hit (s : ByteArray) (k : Nat) (h : k < s.size) (hx : ((s[k].toNat : Int) == 47) = true) : cntk s (k + 1) = cntk s k + 1 := by
  rw [cntk_succ s k h, if_pos (by simpa using hx)]
theorem cntk_miss (s : ByteArray) (k : Nat) (h : k < s.size) (hx : ((s[k].toNat : Int) == 47) = false) : cntk s (k + 1) = cntk s k := by
  rw [cntk_succ s k h, if_neg (by simpa using hx)]; omega
set_option maxRecDepth 100000 in
theorem rslashes_any (s : ByteArray) (hs : s.size ≤ 2000) (w : World) :
    Calls Try.prog 21 #[.string s] w fun e w' => e = .returned (.int .i64 (cnt s)) ∧ w = w' := by
  go_enter Try.func21, Try.ntmps21
  go_wp2
  go_loop [3, 4] (fun n i => ∃ k : Nat, k ≤ s.size ∧ i = .int .i64 k ∧ n = .int .i64 (cntk s k)) (fun _ i => s.size - (intOf i).toNat)
  case atStart => exact ⟨0, Nat.zero_le _, rfl, rfl⟩
  case round =>
    obtain ⟨k, hk, rfl, rfl⟩ := hrel
    obtain ⟨hk1, hk2⟩ := cntk_le s k
    by_cases hlt : k < s.size
    · go_wp2
      all_goals
        go_round
        case rel => exact ⟨k + 1, by omega, by go_num, by first | rw [cntk_hit s k hlt (by assumption)] | rw [cntk_miss s k hlt (by assumption)]⟩
        case measure => simp [intOf]; omega
    · have e := Lib.hid (show k = s.size by omega)
      go_wp2
      go_ret
      exact ⟨ret_int (by rw [e.out]; exact cntk_all s), rfl⟩

set_option maxRecDepth 100000 in
set_option maxHeartbeats 1000000 in
theorem rticks_any (sys a b : Int) (s t : ByteArray) (p : Int) (w : World) :
    Calls Try.prog 12 #[.agg #[.int .i64 sys, .int .i64 a, .int .i64 b, .string s, .string t], .int .i64 p] w fun e w' => e = .returned (.int .i64 (ticksF sys a b s t p)) ∧ Below w.heap.size w w' := by
  obtain ⟨hp1, hp2⟩ := parts_le sys a b s t
  obtain ⟨hl1, hl2⟩ := bytes_le sys a b s t p
  by_cases hn : p < 0
  · have H := Lib.hid (ticks_none (sys := sys) (a := a) (b := b) (s := s) (t := t) (Or.inl hn))
    go_enter Try.func12, Try.ntmps12
    go_wp2
    go_ret
    exact ⟨ret_int H.out.symm, (Below.refl _ _).alloc (Nat.le_refl _) _⟩
  · by_cases hq : partsF sys a b s t ≤ p
    · have H := Lib.hid (ticks_none (sys := sys) (a := a) (b := b) (s := s) (t := t) (Or.inr hq))
      go_enter Try.func12, Try.ntmps12
      go_wp2_with (go_at_call 8; refine (rparts_any _ _ _ _ _ _).mono ?_; rintro e w1 ⟨rfl, hb⟩; obtain ⟨h1, hbb⟩ := box_below hb; have c1 := h1.rd; clear hb)
      go_ret
      exact ⟨ret_int H.out.symm, hbb⟩
    · have H := Lib.hid (ticks_some (sys := sys) (a := a) (b := b) (s := s) (t := t) (p := p) (by omega))
      have hp3 : 0 ≤ p := by omega
      have hp4 : p < partsF sys a b s t := by omega
      have hmay := Lib.hid (parts_may (sys := sys) (a := a) (b := b) (s := s) (t := t) (p := p) (by omega))
      obtain ⟨k1, k2⟩ := cnt_le s
      obtain ⟨k3, k4⟩ := cnt_le t
      by_cases hA : sys = 3 ∨ sys = 4
      · rcases hA with rfl | rfl
        all_goals
          go_enter Try.func12, Try.ntmps12
          go_wp2_with (first | (go_at_call 8; refine (rparts_any _ _ _ _ _ _).mono ?_; rintro e w1 ⟨rfl, hb⟩; obtain ⟨h1, hbb⟩ := box_below hb; have c1 := h1.rd; clear hb) | (go_at_call 10; refine (rbytes_any _ _ _ _ _ _ _).mono ?_; rintro e w2 ⟨rfl, hb2⟩; obtain ⟨h2, hbb2⟩ := box_below2 h1 hbb hb2; have c2 := h2.rd; clear hb2))
          go_ret
          exact ⟨ret_int (by rw [H.out]; simp), hbb2⟩
      · by_cases hB : sys = 1 ∨ sys = 8 ∨ sys = 9 ∨ sys = 10 ∨ sys = 12 ∨ sys = 13
        · have hs := may_one hmay.out hB
          rcases hB with rfl | rfl | rfl | rfl | rfl | rfl
          all_goals
            go_enter Try.func12, Try.ntmps12
            go_wp2_with (first | (go_at_call 8; refine (rparts_any _ _ _ _ _ _).mono ?_; rintro e w1 ⟨rfl, hb⟩; obtain ⟨h1, hbb⟩ := box_below hb; have c1 := h1.rd; clear hb) | (go_at_call 21; refine (rslashes_any _ (Nat.le_trans hs (by decide)) _).mono ?_; rintro e w2 ⟨rfl, rfl⟩))
            go_ret
            exact ⟨ret_int (by rw [H.out]; simp), hbb⟩
        · by_cases hC : sys = 7
          · subst hC
            obtain ⟨hs, ht⟩ := may_two hmay.out
            have hs2 : s.size ≤ 2000 := Nat.le_trans hs (by decide)
            have ht2 : t.size ≤ 2000 := Nat.le_trans ht (by decide)
            go_enter Try.func12, Try.ntmps12
            go_wp2_with (go_at_call 8; refine (rparts_any _ _ _ _ _ _).mono ?_; rintro e w1 ⟨rfl, hb⟩; obtain ⟨h1, hbb⟩ := box_below hb; have c1 := h1.rd; clear hb)
            refine region_J (fun _ w' => Below w.heap.size w w' ∧ Blk w' w.heap.size #[.int .i64 7, .int .i64 a, .int .i64 b, .string s, .string t] 23) (by kernel_rfl) (by kernel_rfl) ?_ ?_
            · exact ⟨hbb.drew, h1.drew⟩
            · iterate 10
                apply wpJ_op rfl (by rfl)
                · intro f w' hf hJ Q1 hQ
                  obtain ⟨hb, h1⟩ := hJ
                  have c1 := h1.rd
                  simp only [Act.put, List.setIfInBounds_toArray, List.set_cons_zero, List.set_cons_succ] at hQ
                  go_wp2_with (go_at_call 21; refine (rslashes_any _ (by first | exact hs2 | exact ht2) _).mono ?_; rintro e w2 ⟨rfl, rfl⟩)
                  exact hQ _ _ rfl ⟨hb, h1⟩
                simp only [Act.put, List.setIfInBounds_toArray, List.set_cons_zero, List.set_cons_succ]
              refine wpJ_nil ?_
              intro w2 hJ
              obtain ⟨hb, h2⟩ := hJ
              clear c1
              go_wp2
              go_ret
              exact ⟨ret_int (by rw [H.out]; simp), hb⟩
          · by_cases hD : sys = 14
            · subst hD
              go_enter Try.func12, Try.ntmps12
              go_wp2_with (go_at_call 8; refine (rparts_any _ _ _ _ _ _).mono ?_; rintro e w1 ⟨rfl, hb⟩; obtain ⟨h1, hbb⟩ := box_below hb; have c1 := h1.rd; clear hb)
              go_ret
              exact ⟨ret_int (by rw [H.out]; simp), hbb⟩
            · have H2 : Hid (ticksF sys a b s t p = 2) := by
                show ticksF sys a b s t p = 2
                rw [H.out, if_neg hA, if_neg hB, if_neg hC, if_neg hD]
              have n1 : (sys == 1) = false := by simp; omega
              have n3 : (sys == 3) = false := by simp; omega
              have n4 : (sys == 4) = false := by simp; omega
              have n7 : (sys == 7) = false := by simp; omega
              have n8 : (sys == 8) = false := by simp; omega
              have n9 : (sys == 9) = false := by simp; omega
              have n10 : (sys == 10) = false := by simp; omega
              have n12 : (sys == 12) = false := by simp; omega
              have n13 : (sys == 13) = false := by simp; omega
              have n14 : (sys == 14) = false := by simp; omega
              clear hA hB hC hD
              go_enter Try.func12, Try.ntmps12
              go_wp2_with (go_at_call 8; refine (rparts_any _ _ _ _ _ _).mono ?_; rintro e w1 ⟨rfl, hb⟩; obtain ⟨h1, hbb⟩ := box_below hb; have c1 := h1.rd; clear hb)
              go_ret
              exact ⟨ret_int H2.out.symm, hbb⟩

set_option maxRecDepth 100000 in
theorem rbound_any (sys a b : Int) (s t : ByteArray) (w : World) :
    Calls Try.prog 14 #[.agg #[.int .i64 sys, .int .i64 a, .int .i64 b, .string s, .string t]] w fun e w' => e = .returned (.int .i64 (boundF sys a b s t (partsF sys a b s t).toNat)) ∧ Below w.heap.size w w' := by
  obtain ⟨hp1, hp2⟩ := parts_le sys a b s t
  go_enter Try.func14, Try.ntmps14
  go_wp2
  go_loopw [3, 4] (fun n i wr => ∃ k : Nat, (k : Int) ≤ partsF sys a b s t ∧ i = .int .i64 k ∧ n = .int .i64 (boundF sys a b s t k) ∧ Below w.heap.size w wr ∧ Blk wr w.heap.size #[.int .i64 sys, .int .i64 a, .int .i64 b, .string s, .string t] 23) (fun _ i _ => (partsF sys a b s t - intOf i).toNat)
  case atStart => exact ⟨0, by omega, rfl, rfl, (Below.refl _ _).alloc (Nat.le_refl _) _, Blk.new _ _ _⟩
  case round =>
    obtain ⟨k, hk, rfl, rfl, hb3, h3⟩ := hrel
    obtain ⟨hb1, hb2⟩ := bound_le sys a b s t k
    obtain ⟨ht1, ht2⟩ := ticks_le sys a b s t k
    have c3 := h3.rd
    by_cases hlt : (k : Int) < partsF sys a b s t
    · go_wp2_with (first | (go_at_call 8; refine (rparts_any _ _ _ _ _ _).mono ?_; rintro e w4 ⟨rfl, hb4⟩; obtain ⟨h4, hbb4⟩ := box_below2 h3 hb3 hb4; have c4 := h4.rd; clear hb4) | (go_at_call 12; refine (rticks_any _ _ _ _ _ _ _).mono ?_; rintro e w5 ⟨rfl, hb5⟩; obtain ⟨h5, hbb5⟩ := box_below2 h4 hbb4 hb5; clear hb5))
      go_roundw
      case rel => exact ⟨k + 1, by omega, by go_num, by rw [bound_succ], hbb5, h5⟩
      case measure => simp [intOf]; omega
    · have e : (partsF sys a b s t).toNat = k := by omega
      have H := Lib.hid e
      clear e
      go_wp2_with (first | (go_at_call 8; refine (rparts_any _ _ _ _ _ _).mono ?_; rintro e w4 ⟨rfl, hb4⟩; obtain ⟨h4, hbb4⟩ := box_below2 h3 hb3 hb4; have c4 := h4.rd; clear hb4))
      go_ret
      exact ⟨ret_int (by rw [H.out]), hbb4⟩
end Go.Proofs.Ytifhcnkadieboaa
