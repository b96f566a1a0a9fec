/-
  May a step be: the document's May, at every step.
-/
import Derived.Test.YtefaaginedideaaGreatDoorRMay
import Derived.Test.YtefaaginedideaaGreatDoorMayO
namespace Go.Proofs.YtefaaginedideaaGreatDoor
set_option linter.unusedSimpArgs false
set_option linter.unusedVariables false
open Go.RowKit RegJ

theorem rmayc_is {y p q : Int} {s t : ByteArray} {v : Bool} (h : mayB y p q s t = v) (w : World) : Calls Tryz.prog 48 #[.agg #[.int .i64 y, .int .i64 p, .int .i64 q, .string s, .string t]] w fun e w' => e = .returned (.bool v) ∧ Below w.heap.size w w' := h ▸ rmay_any y p q s t w
set_option maxRecDepth 100000 in
set_option maxHeartbeats 1000000 in
theorem rmayo_0 (a b c y p q : Int) (s t : ByteArray) (w : World) : Calls Tryz.prog 26 #[.agg #[.int .i64 0, .int .i64 a, .int .i64 b, .int .i64 c, .int .i64 y, .int .i64 p, .int .i64 q, .string s, .string t]] w fun e w' => e = .returned (.bool (mayOB 0 a b c y p q s t)) ∧ Below w.heap.size w w' := by
  rw [mayOB_0]
  go_enter Tryz.func26, Tryz.ntmps26
  go_wp2_with (go_at_call 47; refine (in_any _ _ _).mono ?_; rintro e w' ⟨rfl, rfl⟩)
  all_goals
    go_ret
    refine ⟨ret_bool ?_, ?_⟩
    · have e1 := @emp_size s
      have e2 := @emp_size t
      grind [emp, callZ, withinB]
    · first | exact (((Below.refl _ _).alloc (Nat.le_refl _) _).alloc (by simp) _).setCell (by simp) _ | exact ((Below.refl _ _).alloc (Nat.le_refl _) _).alloc (by simp) _
set_option maxRecDepth 100000 in
set_option maxHeartbeats 1000000 in
theorem rmayo_4 (a b c y p q : Int) (s t : ByteArray) (w : World) : Calls Tryz.prog 26 #[.agg #[.int .i64 4, .int .i64 a, .int .i64 b, .int .i64 c, .int .i64 y, .int .i64 p, .int .i64 q, .string s, .string t]] w fun e w' => e = .returned (.bool (mayOB 4 a b c y p q s t)) ∧ Below w.heap.size w w' := by
  rw [mayOB_4]
  go_enter Tryz.func26, Tryz.ntmps26
  go_wp2_with (go_at_call 47; refine (in_any _ _ _).mono ?_; rintro e w' ⟨rfl, rfl⟩)
  all_goals
    go_ret
    refine ⟨ret_bool ?_, ?_⟩
    · have e1 := @emp_size s
      have e2 := @emp_size t
      grind [emp, callZ, withinB]
    · first | exact (((Below.refl _ _).alloc (Nat.le_refl _) _).alloc (by simp) _).setCell (by simp) _ | exact ((Below.refl _ _).alloc (Nat.le_refl _) _).alloc (by simp) _
set_option maxRecDepth 100000 in
set_option maxHeartbeats 1000000 in
theorem rmayo_6 (a b c y p q : Int) (s t : ByteArray) (w : World) : Calls Tryz.prog 26 #[.agg #[.int .i64 6, .int .i64 a, .int .i64 b, .int .i64 c, .int .i64 y, .int .i64 p, .int .i64 q, .string s, .string t]] w fun e w' => e = .returned (.bool (mayOB 6 a b c y p q s t)) ∧ Below w.heap.size w w' := by
  rw [mayOB_6]
  go_enter Tryz.func26, Tryz.ntmps26
  go_wp2_with (go_at_call 47; refine (in_any _ _ _).mono ?_; rintro e w' ⟨rfl, rfl⟩)
  all_goals
    go_ret
    refine ⟨ret_bool ?_, ?_⟩
    · have e1 := @emp_size s
      have e2 := @emp_size t
      grind [emp, callZ, withinB]
    · first | exact (((Below.refl _ _).alloc (Nat.le_refl _) _).alloc (by simp) _).setCell (by simp) _ | exact ((Below.refl _ _).alloc (Nat.le_refl _) _).alloc (by simp) _
set_option maxRecDepth 100000 in
set_option maxHeartbeats 1000000 in
theorem rmayo_1 (a b c y p q : Int) (s t : ByteArray) (w : World) : Calls Tryz.prog 26 #[.agg #[.int .i64 1, .int .i64 a, .int .i64 b, .int .i64 c, .int .i64 y, .int .i64 p, .int .i64 q, .string s, .string t]] w fun e w' => e = .returned (.bool (mayOB 1 a b c y p q s t)) ∧ Below w.heap.size w w' := by
  rw [mayOB_1]
  go_enter Tryz.func26, Tryz.ntmps26
  go_wp2_with (go_at_call 47; refine (in_any _ _ _).mono ?_; rintro e w' ⟨rfl, rfl⟩)
  all_goals
    go_ret
    refine ⟨ret_bool ?_, ?_⟩
    · have e1 := @emp_size s
      have e2 := @emp_size t
      grind [emp, callZ, withinB]
    · first | exact (((Below.refl _ _).alloc (Nat.le_refl _) _).alloc (by simp) _).setCell (by simp) _ | exact ((Below.refl _ _).alloc (Nat.le_refl _) _).alloc (by simp) _
set_option maxRecDepth 100000 in
set_option maxHeartbeats 1000000 in
theorem rmayo_7 (a b c y p q : Int) (s t : ByteArray) (w : World) : Calls Tryz.prog 26 #[.agg #[.int .i64 7, .int .i64 a, .int .i64 b, .int .i64 c, .int .i64 y, .int .i64 p, .int .i64 q, .string s, .string t]] w fun e w' => e = .returned (.bool (mayOB 7 a b c y p q s t)) ∧ Below w.heap.size w w' := by
  rw [mayOB_7]
  go_enter Tryz.func26, Tryz.ntmps26
  go_wp2_with (go_at_call 47; refine (in_any _ _ _).mono ?_; rintro e w' ⟨rfl, rfl⟩)
  all_goals
    go_ret
    refine ⟨ret_bool ?_, ?_⟩
    · have e1 := @emp_size s
      have e2 := @emp_size t
      grind [emp, callZ, withinB]
    · first | exact (((Below.refl _ _).alloc (Nat.le_refl _) _).alloc (by simp) _).setCell (by simp) _ | exact ((Below.refl _ _).alloc (Nat.le_refl _) _).alloc (by simp) _
set_option maxRecDepth 100000 in
set_option maxHeartbeats 1000000 in
theorem rmayo_2 (a b c y p q : Int) (s t : ByteArray) (w : World) : Calls Tryz.prog 26 #[.agg #[.int .i64 2, .int .i64 a, .int .i64 b, .int .i64 c, .int .i64 y, .int .i64 p, .int .i64 q, .string s, .string t]] w fun e w' => e = .returned (.bool (mayOB 2 a b c y p q s t)) ∧ Below w.heap.size w w' := by
  rw [mayOB_2]
  go_enter Tryz.func26, Tryz.ntmps26
  go_wp2_with (go_at_call 47; refine (in_any _ _ _).mono ?_; rintro e w' ⟨rfl, rfl⟩)
  all_goals
    go_ret
    refine ⟨ret_bool ?_, ?_⟩
    · have e1 := @emp_size s
      have e2 := @emp_size t
      grind [emp, callZ, withinB]
    · first | exact (((Below.refl _ _).alloc (Nat.le_refl _) _).alloc (by simp) _).setCell (by simp) _ | exact ((Below.refl _ _).alloc (Nat.le_refl _) _).alloc (by simp) _
set_option maxRecDepth 100000 in
set_option maxHeartbeats 1000000 in
theorem rmayo_3 (a b c y p q : Int) (s t : ByteArray) (w : World) : Calls Tryz.prog 26 #[.agg #[.int .i64 3, .int .i64 a, .int .i64 b, .int .i64 c, .int .i64 y, .int .i64 p, .int .i64 q, .string s, .string t]] w fun e w' => e = .returned (.bool (mayOB 3 a b c y p q s t)) ∧ Below w.heap.size w w' := by
  rw [mayOB_3]
  go_enter Tryz.func26, Tryz.ntmps26
  go_wp2_with (go_at_call 47; refine (in_any _ _ _).mono ?_; rintro e w' ⟨rfl, rfl⟩)
  all_goals
    go_ret
    refine ⟨ret_bool ?_, ?_⟩
    · have e1 := @emp_size s
      have e2 := @emp_size t
      grind [emp, callZ, withinB]
    · first | exact (((Below.refl _ _).alloc (Nat.le_refl _) _).alloc (by simp) _).setCell (by simp) _ | exact ((Below.refl _ _).alloc (Nat.le_refl _) _).alloc (by simp) _
set_option maxRecDepth 100000 in
set_option maxHeartbeats 1000000 in
theorem rmayo_5 (a b c y p q : Int) (s t : ByteArray) (w : World) : Calls Tryz.prog 26 #[.agg #[.int .i64 5, .int .i64 a, .int .i64 b, .int .i64 c, .int .i64 y, .int .i64 p, .int .i64 q, .string s, .string t]] w fun e w' => e = .returned (.bool (mayOB 5 a b c y p q s t)) ∧ Below w.heap.size w w' := by
  rw [mayOB_5]
  go_enter Tryz.func26, Tryz.ntmps26
  go_wp2_with (go_at_call 47; refine (in_any _ _ _).mono ?_; rintro e w' ⟨rfl, rfl⟩)
  all_goals
    go_ret
    refine ⟨ret_bool ?_, ?_⟩
    · have e1 := @emp_size s
      have e2 := @emp_size t
      grind [emp, callZ, withinB]
    · first | exact (((Below.refl _ _).alloc (Nat.le_refl _) _).alloc (by simp) _).setCell (by simp) _ | exact ((Below.refl _ _).alloc (Nat.le_refl _) _).alloc (by simp) _
set_option maxRecDepth 100000 in
set_option maxHeartbeats 1000000 in
theorem rmayo_9 (a b c y p q : Int) (s t : ByteArray) (w : World) : Calls Tryz.prog 26 #[.agg #[.int .i64 9, .int .i64 a, .int .i64 b, .int .i64 c, .int .i64 y, .int .i64 p, .int .i64 q, .string s, .string t]] w fun e w' => e = .returned (.bool (mayOB 9 a b c y p q s t)) ∧ Below w.heap.size w w' := by
  rw [mayOB_9]
  go_enter Tryz.func26, Tryz.ntmps26
  go_wp2_with (go_at_call 47; refine (in_any _ _ _).mono ?_; rintro e w' ⟨rfl, rfl⟩)
  all_goals
    go_ret
    refine ⟨ret_bool ?_, ?_⟩
    · have e1 := @emp_size s
      have e2 := @emp_size t
      grind [emp, callZ, withinB]
    · first | exact (((Below.refl _ _).alloc (Nat.le_refl _) _).alloc (by simp) _).setCell (by simp) _ | exact ((Below.refl _ _).alloc (Nat.le_refl _) _).alloc (by simp) _
set_option maxRecDepth 100000 in
set_option maxHeartbeats 1000000 in
theorem rmayo_8 (a b c y p q : Int) (s t : ByteArray) (w : World) : Calls Tryz.prog 26 #[.agg #[.int .i64 8, .int .i64 a, .int .i64 b, .int .i64 c, .int .i64 y, .int .i64 p, .int .i64 q, .string s, .string t]] w fun e w' => e = .returned (.bool (mayOB 8 a b c y p q s t)) ∧ Below w.heap.size w w' := by
  rw [mayOB_8]
  go_enter Tryz.func26, Tryz.ntmps26
  go_wp2_with (fail)
  all_goals
    refine region_J (fun f w' => Below w.heap.size w w' ∧ Blk w' w.heap.size #[.int .i64 8, .int .i64 a, .int .i64 b, .int .i64 c, .int .i64 y, .int .i64 p, .int .i64 q, .string s, .string t] 25 ∧ Blk w' (w.heap.size + 1) #[.int .i64 8, Sel (f 7) (.int .i64 a) (.int .i64 0), Sel (f 9) (.int .i64 b) (.int .i64 0), Sel (f 11) (.int .i64 c) (.int .i64 0), .int .i64 0, .int .i64 0, .int .i64 0, .string ⟨#[]⟩, .string ⟨#[]⟩] 25) (by kernel_rfl) (by kernel_rfl) ?_ ?_
    · exact ⟨(((Below.refl _ _).alloc (Nat.le_refl _) _).alloc (by simp) _).drew, ((Blk.new _ _ _).alloc _).drew, (Blk.new' (by simp)).drew⟩
    · iterate 7
        apply wpJ_op rfl (by rfl)
        · intro f w' hf hJ Q1 hQ
          obtain ⟨hb, h1, h2⟩ := hJ
          have c1 := h1.rd
          simp only [Act.put, List.setIfInBounds_toArray, List.set_cons_zero, List.set_cons_succ] at hQ
          go_wp2
          exact hQ _ _ rfl ⟨hb, h1, h2⟩
        simp only [Act.put, List.setIfInBounds_toArray, List.set_cons_zero, List.set_cons_succ]
      apply wpJ_op (v := undef) rfl (by rfl)
      · intro f w' hf hJ Q1 hQ
        obtain ⟨hb, h1, h2⟩ := hJ
        have c2 := h2.rd
        have f2 := h2.nf
        simp only [Act.put, List.setIfInBounds_toArray, List.set_cons_zero, List.set_cons_succ] at hQ
        go_wp2
        refine hQ _ _ rfl ⟨hb.setCell (by simp) _, h1.set_ne (by simp) _, Blk.of (h2.set _ _) ?_⟩
        simp [fset, Sel]
      simp only [Act.put, List.setIfInBounds_toArray, List.set_cons_zero, List.set_cons_succ]
      apply wpJ_op rfl (by rfl)
      · intro f w' hf hJ Q1 hQ
        obtain ⟨hb, h1, h2⟩ := hJ
        simp only [Act.put, List.setIfInBounds_toArray, List.set_cons_zero, List.set_cons_succ] at hQ
        go_wp2
        exact hQ _ _ rfl ⟨hb, h1, h2⟩
      simp only [Act.put, List.setIfInBounds_toArray, List.set_cons_zero, List.set_cons_succ]
      apply wpJ_op (v := undef) rfl (by rfl)
      · intro f w' hf hJ Q1 hQ
        obtain ⟨hb, h1, h2⟩ := hJ
        have c2 := h2.rd
        have f2 := h2.nf
        simp only [Act.put, List.setIfInBounds_toArray, List.set_cons_zero, List.set_cons_succ] at hQ
        go_wp2
        refine hQ _ _ rfl ⟨hb.setCell (by simp) _, h1.set_ne (by simp) _, Blk.of (h2.set _ _) ?_⟩
        simp [fset, Sel]
      simp only [Act.put, List.setIfInBounds_toArray, List.set_cons_zero, List.set_cons_succ]
      apply wpJ_op rfl (by rfl)
      · intro f w' hf hJ Q1 hQ
        obtain ⟨hb, h1, h2⟩ := hJ
        simp only [Act.put, List.setIfInBounds_toArray, List.set_cons_zero, List.set_cons_succ] at hQ
        go_wp2
        exact hQ _ _ rfl ⟨hb, h1, h2⟩
      simp only [Act.put, List.setIfInBounds_toArray, List.set_cons_zero, List.set_cons_succ]
      apply wpJ_op (v := undef) rfl (by rfl)
      · intro f w' hf hJ Q1 hQ
        obtain ⟨hb, h1, h2⟩ := hJ
        have c2 := h2.rd
        have f2 := h2.nf
        simp only [Act.put, List.setIfInBounds_toArray, List.set_cons_zero, List.set_cons_succ] at hQ
        go_wp2
        refine hQ _ _ rfl ⟨hb.setCell (by simp) _, h1.set_ne (by simp) _, Blk.of (h2.set _ _) ?_⟩
        simp [fset, Sel]
      simp only [Act.put, List.setIfInBounds_toArray, List.set_cons_zero, List.set_cons_succ]
      refine wpJ_nil ?_
      intro w1 hJ
      obtain ⟨hb, h1, h2⟩ := hJ
      replace h2 : Blk w1 (w.heap.size + 1) #[.int .i64 8, .int .i64 a, .int .i64 b, .int .i64 c, .int .i64 0, .int .i64 0, .int .i64 0, .string ⟨#[]⟩, .string ⟨#[]⟩] 25 := h2
      have c1 := h1.rd
      have c2 := h2.rd
      go_wp2_with (go_at_call 47; refine (in_any _ _ _).mono ?_; rintro e w' ⟨rfl, rfl⟩)
      all_goals
        go_ret
        refine ⟨ret_bool ?_, hb⟩
        clear c1 c2 h1 h2 hb
        have e1 := @emp_size s
        have e2 := @emp_size t
        grind [emp, callZ, withinB]
set_option maxRecDepth 100000 in
set_option maxHeartbeats 1000000 in
theorem rmayo_10 (a b c y p q : Int) (s t : ByteArray) (w : World) : Calls Tryz.prog 26 #[.agg #[.int .i64 10, .int .i64 a, .int .i64 b, .int .i64 c, .int .i64 y, .int .i64 p, .int .i64 q, .string s, .string t]] w fun e w' => e = .returned (.bool (mayOB 10 a b c y p q s t)) ∧ Below w.heap.size w w' := by
  rw [mayOB_10]
  have hrm := rmay_any y p q s t
  go_enter Tryz.func26, Tryz.ntmps26
  go_wp2_with (go_at_call 48; refine (hrm _).mono ?_; rintro e w1 ⟨rfl, hb⟩)
  all_goals
    go_ret
    refine ⟨ret_bool ?_, ?_⟩
    · clear hrm
      grind
    · have h0 : ∀ o1 o2 : Obj, Below w.heap.size w ((w.alloc o1).alloc o2) := fun o1 o2 => ((Below.refl _ _).alloc (Nat.le_refl _) _).alloc (by simp) _
      have hs : ∀ o1 o2 : Obj, w.heap.size ≤ ((w.alloc o1).alloc o2).heap.size := fun o1 o2 => (h0 o1 o2).size
      first | exact h0 _ _ | exact (h0 _ _).trans (hb.mono (hs _ _))
theorem rmayo_x (k a b c y p q : Int) (s t : ByteArray) (h : k < 0 ∨ 10 < k) (w : World) : Calls Tryz.prog 26 #[.agg #[.int .i64 k, .int .i64 a, .int .i64 b, .int .i64 c, .int .i64 y, .int .i64 p, .int .i64 q, .string s, .string t]] w fun e w' => e = .returned (.bool (mayOB k a b c y p q s t)) ∧ Below w.heap.size w w' := by
  have hm := mayOB_x h a b c y p q s t
  rw [hm]
  clear hm
  go_enter Tryz.func26, Tryz.ntmps26
  go_wp2
  go_ret
  exact ⟨rfl, ((Below.refl _ _).alloc (Nat.le_refl _) _).alloc (by simp) _⟩
theorem rmayo_any (k a b c y p q : Int) (s t : ByteArray) (w : World) : Calls Tryz.prog 26 #[.agg #[.int .i64 k, .int .i64 a, .int .i64 b, .int .i64 c, .int .i64 y, .int .i64 p, .int .i64 q, .string s, .string t]] w fun e w' => e = .returned (.bool (mayOB k a b c y p q s t)) ∧ Below w.heap.size w w' := by
  by_cases hx : k < 0 ∨ 10 < k
  · exact rmayo_x k a b c y p q s t hx w
  · have hc : k = 0 ∨ k = 1 ∨ k = 2 ∨ k = 3 ∨ k = 4 ∨ k = 5 ∨ k = 6 ∨ k = 7 ∨ k = 8 ∨ k = 9 ∨ k = 10 := by omega
    rcases hc with rfl | rfl | rfl | rfl | rfl | rfl | rfl | rfl | rfl | rfl | rfl
    · exact rmayo_0 a b c y p q s t w
    · exact rmayo_1 a b c y p q s t w
    · exact rmayo_2 a b c y p q s t w
    · exact rmayo_3 a b c y p q s t w
    · exact rmayo_4 a b c y p q s t w
    · exact rmayo_5 a b c y p q s t w
    · exact rmayo_6 a b c y p q s t w
    · exact rmayo_7 a b c y p q s t w
    · exact rmayo_8 a b c y p q s t w
    · exact rmayo_9 a b c y p q s t w
    · exact rmayo_10 a b c y p q s t w
end Go.Proofs.YtefaaginedideaaGreatDoor
