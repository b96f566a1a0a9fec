/-
  What every program answers that is one; and CostTells: the program's table of ticks is the document's, at every call and part.
-/
import Derived.Test.YtifhcnkadieboaaCostR
namespace Go.Proofs.Ytifhcnkadieboaa
set_option linter.unusedSimpArgs false
set_option linter.unusedVariables false
open Go.RowKit RegJ

theorem aw_may : mayB 3 0 100 ⟨#[]⟩ ⟨#[]⟩ = true := by rw [mayB_3]; decide +kernel
theorem aw_parts : partsF 3 0 100 ⟨#[]⟩ ⟨#[]⟩ = 2 := by unfold partsF; rw [aw_may]; decide +kernel
theorem aw_bytes0 : bytesF 3 0 100 ⟨#[]⟩ ⟨#[]⟩ 0 = 64 := by unfold bytesF; rw [aw_parts]; decide +kernel
theorem aw_bytes1 : bytesF 3 0 100 ⟨#[]⟩ ⟨#[]⟩ 1 = 36 := by unfold bytesF; rw [aw_parts]; decide +kernel
theorem aw_ticks0 : ticksF 3 0 100 ⟨#[]⟩ ⟨#[]⟩ 0 = 6 := by unfold ticksF; rw [aw_parts, aw_bytes0]; decide +kernel
theorem aw_ticks1 : ticksF 3 0 100 ⟨#[]⟩ ⟨#[]⟩ 1 = 5 := by unfold ticksF; rw [aw_parts, aw_bytes1]; decide +kernel
theorem aw_bound : boundF 3 0 100 ⟨#[]⟩ ⟨#[]⟩ (partsF 3 0 100 ⟨#[]⟩ ⟨#[]⟩).toNat = 11 := by
  rw [aw_parts]
  show boundF 3 0 100 ⟨#[]⟩ ⟨#[]⟩ (1 + 1) = 11
  rw [bound_succ, bound_succ 3 0 100 ⟨#[]⟩ ⟨#[]⟩ 0]
  show 0 + ticksF 3 0 100 ⟨#[]⟩ ⟨#[]⟩ 0 + ticksF 3 0 100 ⟨#[]⟩ ⟨#[]⟩ 1 = 11
  rw [aw_ticks0, aw_ticks1]; decide
theorem parts_is {sys a b : Int} {s t : ByteArray} {v : Int} (h : partsF sys a b s t = v) (w : World) : Calls Try.prog 7 #[.agg #[.int .i64 sys, .int .i64 a, .int .i64 b, .string s, .string t]] w fun e w' => e = .returned (.int .i64 v) ∧ Below w.heap.size w w' := h ▸ parts_any sys a b s t w
theorem ticks_is {sys a b : Int} {s t : ByteArray} {p v : Int} (h : ticksF sys a b s t p = v) (w : World) : Calls Try.prog 11 #[.agg #[.int .i64 sys, .int .i64 a, .int .i64 b, .string s, .string t], .int .i64 p] w fun e w' => e = .returned (.int .i64 v) ∧ Below w.heap.size w w' := h ▸ ticks_any sys a b s t p w
theorem bound_is {sys a b : Int} {s t : ByteArray} {v : Int} (h : boundF sys a b s t (partsF sys a b s t).toNat = v) (w : World) : Calls Try.prog 13 #[.agg #[.int .i64 sys, .int .i64 a, .int .i64 b, .string s, .string t]] w fun e w' => e = .returned (.int .i64 v) ∧ Below w.heap.size w w' := h ▸ bound_any sys a b s t w

set_option maxRecDepth 100000 in
theorem awake_any (w : World) : Calls Try.prog 6 #[] w fun e w' => e = .returned (.bool true) ∧ Below w.heap.size w w' := by
  go_enter Try.func6, Try.ntmps6
  go_wp2_with (first | (go_at_call 7; (with_reducible refine (parts_is aw_parts _).mono ?_); rintro e w1 ⟨rfl, hb⟩; obtain ⟨hw1, hbw1⟩ := box_below hb; have cw1 := hw1.rd; clear hb) | (go_at_call 11; (with_reducible refine (ticks_is aw_ticks1 _).mono ?_); rintro e w3 ⟨rfl, hb⟩; obtain ⟨hw3, hbw3⟩ := box_below2 hw2 hbw2 hb; have cw3 := hw3.rd; clear hb) | (go_at_call 11; (with_reducible refine (ticks_is aw_ticks0 _).mono ?_); rintro e w2 ⟨rfl, hb⟩; obtain ⟨hw2, hbw2⟩ := box_below2 hw1 hbw1 hb; have cw2 := hw2.rd; clear hb) | (go_at_call 13; (with_reducible refine (bound_is aw_bound _).mono ?_); rintro e w4 ⟨rfl, hb⟩; obtain ⟨hw4, hbw4⟩ := box_below2 hw3 hbw3 hb; have cw4 := hw4.rd; clear hb))
  go_ret
  exact ⟨rfl, hbw4⟩
theorem len_bool (s : ByteArray) (h : s.size ≤ 2000) : decide (2000 < (s.size : Int)) = false := by simp; omega

set_option maxRecDepth 100000 in
set_option maxHeartbeats 1000000 in
theorem tells_walk (sys a b : Int) (s t : ByteArray) (p : Int) (hs : s.size ≤ maxLen) (ht : t.size ≤ maxLen) (_ : (Lit.int .i64 p).wf = true) (w : World) :
    Calls Try.prog 3 #[.agg #[.int .i64 sys, .int .i64 a, .int .i64 b, .string s, .string t], .int .i64 p] w fun e w' => e = .returned (.bool true) ∧ Below w.heap.size w w' := by
  unfold maxLen at hs ht
  by_cases h1 : 2000 < s.size
  · go_enter Try.func3, Try.ntmps3
    go_wp2_with (go_at_call 6; refine (awake_any _).mono ?_; rintro e w1 ⟨rfl, hb⟩)
    go_ret
    exact ⟨rfl, ((Below.refl _ _).alloc (Nat.le_refl _) _).trans (hb.mono (by simp))⟩
  · by_cases h2 : 2000 < t.size
    · go_enter Try.func3, Try.ntmps3
      go_wp2_with (go_at_call 6; refine (awake_any _).mono ?_; rintro e w1 ⟨rfl, hb⟩)
      go_ret
      exact ⟨rfl, ((Below.refl _ _).alloc (Nat.le_refl _) _).trans (hb.mono (by simp))⟩
    · go_enter Try.func3, Try.ntmps3
      go_wp2
      refine region_J (fun _ w' => Below w.heap.size w w' ∧ Blk w' w.heap.size #[.int .i64 sys, .int .i64 a, .int .i64 b, .string s, .string t] 23) (by kernel_rfl) (by kernel_rfl) ?_ ?_
      · exact ⟨((Below.refl _ _).alloc (Nat.le_refl _) _).drew, (Blk.new _ _ _).drew⟩
      · iterate 34
          apply wpJ_op rfl (by rfl)
          · intro f w' hf hJ Q1 hQ
            obtain ⟨hb, h1⟩ := hJ
            have c1 := h1.rd
            simp only [Act.put, List.setIfInBounds_toArray, List.set_cons_zero, List.set_cons_succ] at hQ
            go_wp2_with (first
              | (go_at_call 7; refine (parts_any _ _ _ _ _ _).mono ?_; rintro e w2 ⟨rfl, hb2⟩; obtain ⟨h1, hb⟩ := box_below2 h1 hb hb2)
              | (go_at_call 8; refine (rparts_any _ _ _ _ _ _).mono ?_; rintro e w2 ⟨rfl, hb2⟩; obtain ⟨h1, hb⟩ := box_below2 h1 hb hb2)
              | (go_at_call 9; refine (cbytes_any _ _ _ _ _ _ _).mono ?_; rintro e w2 ⟨rfl, hb2⟩; obtain ⟨h1, hb⟩ := box_below2 h1 hb hb2)
              | (go_at_call 10; refine (rbytes_any _ _ _ _ _ _ _).mono ?_; rintro e w2 ⟨rfl, hb2⟩; obtain ⟨h1, hb⟩ := box_below2 h1 hb hb2)
              | (go_at_call 11; refine (ticks_any _ _ _ _ _ _ _).mono ?_; rintro e w2 ⟨rfl, hb2⟩; obtain ⟨h1, hb⟩ := box_below2 h1 hb hb2)
              | (go_at_call 12; refine (rticks_any _ _ _ _ _ _ _).mono ?_; rintro e w2 ⟨rfl, hb2⟩; obtain ⟨h1, hb⟩ := box_below2 h1 hb hb2)
              | (go_at_call 13; refine (bound_any _ _ _ _ _ _).mono ?_; rintro e w2 ⟨rfl, hb2⟩; obtain ⟨h1, hb⟩ := box_below2 h1 hb hb2)
              | (go_at_call 14; refine (rbound_any _ _ _ _ _ _).mono ?_; rintro e w2 ⟨rfl, hb2⟩; obtain ⟨h1, hb⟩ := box_below2 h1 hb hb2)
              | (go_at_call 6; refine (awake_any _).mono ?_; rintro e w2 ⟨rfl, hb2⟩; obtain ⟨h1, hb⟩ := box_below2 h1 hb hb2))
            exact hQ _ _ rfl ⟨hb, h1⟩
          simp only [Act.put, List.setIfInBounds_toArray, List.set_cons_zero, List.set_cons_succ]
        refine wpJ_nil ?_
        intro w2 hJ
        obtain ⟨hb, h2⟩ := hJ
        go_wp2
        go_ret
        exact ⟨rfl, hb⟩
end Go.Proofs.Ytifhcnkadieboaa
