/-
  May a call be: the document's MayCall, at every call.
-/
import Derived.Test.YtefaaginedideaaGreatDoorMay
namespace Go.Proofs.YtefaaginedideaaGreatDoor
set_option linter.unusedSimpArgs false
set_option linter.unusedVariables false
open Go.RowKit RegJ

theorem in_any (x m : Int) (w : World) :
    Calls Tryz.prog 47 #[.int .i64 x, .int .i64 m] w fun e w' => e = .returned (.bool (withinB x 0 m)) ∧ w = w' := by
  go_enter Tryz.func47, Tryz.ntmps47
  go_wp2
  all_goals go_ret
  · exact ⟨ret_bool (by simp [withinB]; omega), rfl⟩
  · exact ⟨ret_bool (by simp [withinB]; omega), rfl⟩
theorem path_t {s : ByteArray} (h : (s.size : Int) ≤ 100) : pathB s = true := by simp [pathB]; omega
theorem path_f {s : ByteArray} (h : 100 < (s.size : Int)) : pathB s = false := by simp [pathB]; omega
theorem path_f2 {s : ByteArray} (h : ¬ (s.size : Int) ≤ 100) : pathB s = false := by simp [pathB]; omega
set_option maxRecDepth 100000 in
set_option maxHeartbeats 1000000 in
theorem rmay_1 (a b : Int) (s t : ByteArray) (w : World) : Calls Tryz.prog 48 #[.agg #[.int .i64 1, .int .i64 a, .int .i64 b, .string s, .string t]] w fun e w' => e = .returned (.bool (mayB 1 a b s t)) ∧ Below w.heap.size w w' := by
  rw [mayB_1]
  go_enter Tryz.func48, Tryz.ntmps48
  go_wp2_with (go_at_call 47; refine (in_any _ _ _).mono ?_; rintro e w' ⟨rfl, rfl⟩)
  all_goals
    refine region_J (fun f w' => Below w.heap.size w w' ∧ Blk w' w.heap.size #[.int .i64 1, .int .i64 a, .int .i64 b, .string s, .string t] 23 ∧ Blk w' (w.heap.size + 1) #[.int .i64 1, Sel (f 7) (.int .i64 a) (.int .i64 0), .int .i64 0, Sel (f 5) (.string s) (.string ⟨#[]⟩), .string ⟨#[]⟩] 23) (by kernel_rfl) (by kernel_rfl) ?_ ?_
    · exact ⟨(((Below.refl _ _).alloc (Nat.le_refl _) _).alloc (by simp) _).drew, ((Blk.new _ _ _).alloc _).drew, (Blk.new' (by simp)).drew⟩
    · iterate 5
        apply wpJ_op rfl (by rfl)
        · intro f w' hf hJ Q1 hQ
          obtain ⟨hb, h1, h2⟩ := hJ
          have c1 := h1.rd
          simp only [Act.put, List.setIfInBounds_toArray, List.set_cons_zero, List.set_cons_succ] at hQ
          go_wp2
          exact hQ _ _ rfl ⟨hb, h1, h2⟩
        simp only [Act.put, List.setIfInBounds_toArray, List.set_cons_zero, List.set_cons_succ]
      apply wpJ_op (v := undef) rfl (by rfl)
      · intro f w' hf hJ Q1 hQ
        obtain ⟨hb, h1, h2⟩ := hJ
        have c2 := h2.rd
        have f2 := h2.nf
        simp only [Act.put, List.setIfInBounds_toArray, List.set_cons_zero, List.set_cons_succ] at hQ
        go_wp2
        refine hQ _ _ rfl ⟨hb.setCell (by simp) _, h1.set_ne (by simp) _, Blk.of (h2.set _ _) rfl⟩
      simp only [Act.put, List.setIfInBounds_toArray, List.set_cons_zero, List.set_cons_succ]
      apply wpJ_op rfl (by rfl)
      · intro f w' hf hJ Q1 hQ
        obtain ⟨hb, h1, h2⟩ := hJ
        simp only [Act.put, List.setIfInBounds_toArray, List.set_cons_zero, List.set_cons_succ] at hQ
        go_wp2
        exact hQ _ _ rfl ⟨hb, h1, h2⟩
      simp only [Act.put, List.setIfInBounds_toArray, List.set_cons_zero, List.set_cons_succ]
      apply wpJ_op (v := undef) rfl (by rfl)
      · intro f w' hf hJ Q1 hQ
        obtain ⟨hb, h1, h2⟩ := hJ
        have c2 := h2.rd
        have f2 := h2.nf
        simp only [Act.put, List.setIfInBounds_toArray, List.set_cons_zero, List.set_cons_succ] at hQ
        go_wp2
        refine hQ _ _ rfl ⟨hb.setCell (by simp) _, h1.set_ne (by simp) _, Blk.of (h2.set _ _) rfl⟩
      simp only [Act.put, List.setIfInBounds_toArray, List.set_cons_zero, List.set_cons_succ]
      refine wpJ_nil ?_
      intro w1 hJ
      obtain ⟨hb, h1, h2⟩ := hJ
      replace h2 : Blk w1 (w.heap.size + 1) #[.int .i64 1, .int .i64 a, .int .i64 0, .string s, .string ⟨#[]⟩] 23 := h2
      have c1 := h1.rd
      have c2 := h2.rd
      go_wp2_with (go_at_call 47; refine (in_any _ _ _).mono ?_; rintro e w' ⟨rfl, rfl⟩)
      all_goals
        go_ret
        refine ⟨ret_bool ?_, hb⟩
        clear c1 c2 h1 h2 hb
        have e1 := @emp_size s
        have e2 := @emp_size t
        grind [emp, path_emp, path_t, path_f, path_f2, withinB]
set_option maxRecDepth 100000 in
set_option maxHeartbeats 1000000 in
theorem rmay_2 (a b : Int) (s t : ByteArray) (w : World) : Calls Tryz.prog 48 #[.agg #[.int .i64 2, .int .i64 a, .int .i64 b, .string s, .string t]] w fun e w' => e = .returned (.bool (mayB 2 a b s t)) ∧ Below w.heap.size w w' := by
  rw [mayB_2]
  go_enter Tryz.func48, Tryz.ntmps48
  go_wp2_with (go_at_call 47; refine (in_any _ _ _).mono ?_; rintro e w' ⟨rfl, rfl⟩)
  all_goals
    go_ret
    refine ⟨ret_bool ?_, ?_⟩
    · have e1 := @emp_size s
      have e2 := @emp_size t
      grind [emp, path_emp, path_t, path_f, path_f2, withinB]
    · first | exact (((Below.refl _ _).alloc (Nat.le_refl _) _).alloc (by simp) _).setCell (by simp) _ | exact ((Below.refl _ _).alloc (Nat.le_refl _) _).alloc (by simp) _
set_option maxRecDepth 100000 in
set_option maxHeartbeats 1000000 in
theorem rmay_3 (a b : Int) (s t : ByteArray) (w : World) : Calls Tryz.prog 48 #[.agg #[.int .i64 3, .int .i64 a, .int .i64 b, .string s, .string t]] w fun e w' => e = .returned (.bool (mayB 3 a b s t)) ∧ Below w.heap.size w w' := by
  rw [mayB_3]
  go_enter Tryz.func48, Tryz.ntmps48
  go_wp2_with (go_at_call 47; refine (in_any _ _ _).mono ?_; rintro e w' ⟨rfl, rfl⟩)
  all_goals
    refine region_J (fun f w' => Below w.heap.size w w' ∧ Blk w' w.heap.size #[.int .i64 3, .int .i64 a, .int .i64 b, .string s, .string t] 23 ∧ Blk w' (w.heap.size + 1) #[.int .i64 3, Sel (f 5) (.int .i64 a) (.int .i64 0), Sel (f 7) (.int .i64 b) (.int .i64 0), .string ⟨#[]⟩, .string ⟨#[]⟩] 23) (by kernel_rfl) (by kernel_rfl) ?_ ?_
    · exact ⟨(((Below.refl _ _).alloc (Nat.le_refl _) _).alloc (by simp) _).drew, ((Blk.new _ _ _).alloc _).drew, (Blk.new' (by simp)).drew⟩
    · iterate 5
        apply wpJ_op rfl (by rfl)
        · intro f w' hf hJ Q1 hQ
          obtain ⟨hb, h1, h2⟩ := hJ
          have c1 := h1.rd
          simp only [Act.put, List.setIfInBounds_toArray, List.set_cons_zero, List.set_cons_succ] at hQ
          go_wp2
          exact hQ _ _ rfl ⟨hb, h1, h2⟩
        simp only [Act.put, List.setIfInBounds_toArray, List.set_cons_zero, List.set_cons_succ]
      apply wpJ_op (v := undef) rfl (by rfl)
      · intro f w' hf hJ Q1 hQ
        obtain ⟨hb, h1, h2⟩ := hJ
        have c2 := h2.rd
        have f2 := h2.nf
        simp only [Act.put, List.setIfInBounds_toArray, List.set_cons_zero, List.set_cons_succ] at hQ
        go_wp2
        refine hQ _ _ rfl ⟨hb.setCell (by simp) _, h1.set_ne (by simp) _, Blk.of (h2.set _ _) rfl⟩
      simp only [Act.put, List.setIfInBounds_toArray, List.set_cons_zero, List.set_cons_succ]
      apply wpJ_op rfl (by rfl)
      · intro f w' hf hJ Q1 hQ
        obtain ⟨hb, h1, h2⟩ := hJ
        simp only [Act.put, List.setIfInBounds_toArray, List.set_cons_zero, List.set_cons_succ] at hQ
        go_wp2
        exact hQ _ _ rfl ⟨hb, h1, h2⟩
      simp only [Act.put, List.setIfInBounds_toArray, List.set_cons_zero, List.set_cons_succ]
      apply wpJ_op (v := undef) rfl (by rfl)
      · intro f w' hf hJ Q1 hQ
        obtain ⟨hb, h1, h2⟩ := hJ
        have c2 := h2.rd
        have f2 := h2.nf
        simp only [Act.put, List.setIfInBounds_toArray, List.set_cons_zero, List.set_cons_succ] at hQ
        go_wp2
        refine hQ _ _ rfl ⟨hb.setCell (by simp) _, h1.set_ne (by simp) _, Blk.of (h2.set _ _) rfl⟩
      simp only [Act.put, List.setIfInBounds_toArray, List.set_cons_zero, List.set_cons_succ]
      refine wpJ_nil ?_
      intro w1 hJ
      obtain ⟨hb, h1, h2⟩ := hJ
      replace h2 : Blk w1 (w.heap.size + 1) #[.int .i64 3, .int .i64 a, .int .i64 b, .string ⟨#[]⟩, .string ⟨#[]⟩] 23 := h2
      have c1 := h1.rd
      have c2 := h2.rd
      go_wp2_with (go_at_call 47; refine (in_any _ _ _).mono ?_; rintro e w' ⟨rfl, rfl⟩)
      all_goals
        go_ret
        refine ⟨ret_bool ?_, hb⟩
        clear c1 c2 h1 h2 hb
        have e1 := @emp_size s
        have e2 := @emp_size t
        grind [emp, path_emp, path_t, path_f, path_f2, withinB]
set_option maxRecDepth 100000 in
set_option maxHeartbeats 1000000 in
theorem rmay_4 (a b : Int) (s t : ByteArray) (w : World) : Calls Tryz.prog 48 #[.agg #[.int .i64 4, .int .i64 a, .int .i64 b, .string s, .string t]] w fun e w' => e = .returned (.bool (mayB 4 a b s t)) ∧ Below w.heap.size w w' := by
  rw [mayB_4]
  go_enter Tryz.func48, Tryz.ntmps48
  go_wp2_with (go_at_call 47; refine (in_any _ _ _).mono ?_; rintro e w' ⟨rfl, rfl⟩)
  all_goals
    refine region_J (fun f w' => Below w.heap.size w w' ∧ Blk w' w.heap.size #[.int .i64 4, .int .i64 a, .int .i64 b, .string s, .string t] 23 ∧ Blk w' (w.heap.size + 1) #[.int .i64 4, Sel (f 5) (.int .i64 a) (.int .i64 0), .int .i64 0, Sel (f 7) (.string s) (.string ⟨#[]⟩), .string ⟨#[]⟩] 23) (by kernel_rfl) (by kernel_rfl) ?_ ?_
    · exact ⟨(((Below.refl _ _).alloc (Nat.le_refl _) _).alloc (by simp) _).drew, ((Blk.new _ _ _).alloc _).drew, (Blk.new' (by simp)).drew⟩
    · iterate 5
        apply wpJ_op rfl (by rfl)
        · intro f w' hf hJ Q1 hQ
          obtain ⟨hb, h1, h2⟩ := hJ
          have c1 := h1.rd
          simp only [Act.put, List.setIfInBounds_toArray, List.set_cons_zero, List.set_cons_succ] at hQ
          go_wp2
          exact hQ _ _ rfl ⟨hb, h1, h2⟩
        simp only [Act.put, List.setIfInBounds_toArray, List.set_cons_zero, List.set_cons_succ]
      apply wpJ_op (v := undef) rfl (by rfl)
      · intro f w' hf hJ Q1 hQ
        obtain ⟨hb, h1, h2⟩ := hJ
        have c2 := h2.rd
        have f2 := h2.nf
        simp only [Act.put, List.setIfInBounds_toArray, List.set_cons_zero, List.set_cons_succ] at hQ
        go_wp2
        refine hQ _ _ rfl ⟨hb.setCell (by simp) _, h1.set_ne (by simp) _, Blk.of (h2.set _ _) rfl⟩
      simp only [Act.put, List.setIfInBounds_toArray, List.set_cons_zero, List.set_cons_succ]
      apply wpJ_op rfl (by rfl)
      · intro f w' hf hJ Q1 hQ
        obtain ⟨hb, h1, h2⟩ := hJ
        simp only [Act.put, List.setIfInBounds_toArray, List.set_cons_zero, List.set_cons_succ] at hQ
        go_wp2
        exact hQ _ _ rfl ⟨hb, h1, h2⟩
      simp only [Act.put, List.setIfInBounds_toArray, List.set_cons_zero, List.set_cons_succ]
      apply wpJ_op (v := undef) rfl (by rfl)
      · intro f w' hf hJ Q1 hQ
        obtain ⟨hb, h1, h2⟩ := hJ
        have c2 := h2.rd
        have f2 := h2.nf
        simp only [Act.put, List.setIfInBounds_toArray, List.set_cons_zero, List.set_cons_succ] at hQ
        go_wp2
        refine hQ _ _ rfl ⟨hb.setCell (by simp) _, h1.set_ne (by simp) _, Blk.of (h2.set _ _) rfl⟩
      simp only [Act.put, List.setIfInBounds_toArray, List.set_cons_zero, List.set_cons_succ]
      refine wpJ_nil ?_
      intro w1 hJ
      obtain ⟨hb, h1, h2⟩ := hJ
      replace h2 : Blk w1 (w.heap.size + 1) #[.int .i64 4, .int .i64 a, .int .i64 0, .string s, .string ⟨#[]⟩] 23 := h2
      have c1 := h1.rd
      have c2 := h2.rd
      go_wp2_with (go_at_call 47; refine (in_any _ _ _).mono ?_; rintro e w' ⟨rfl, rfl⟩)
      all_goals
        go_ret
        refine ⟨ret_bool ?_, hb⟩
        clear c1 c2 h1 h2 hb
        have e1 := @emp_size s
        have e2 := @emp_size t
        grind [emp, path_emp, path_t, path_f, path_f2, withinB]
set_option maxRecDepth 100000 in
set_option maxHeartbeats 1000000 in
theorem rmay_5 (a b : Int) (s t : ByteArray) (w : World) : Calls Tryz.prog 48 #[.agg #[.int .i64 5, .int .i64 a, .int .i64 b, .string s, .string t]] w fun e w' => e = .returned (.bool (mayB 5 a b s t)) ∧ Below w.heap.size w w' := by
  rw [mayB_5]
  go_enter Tryz.func48, Tryz.ntmps48
  go_wp2_with (go_at_call 47; refine (in_any _ _ _).mono ?_; rintro e w' ⟨rfl, rfl⟩)
  all_goals
    refine region_J (fun f w' => Below w.heap.size w w' ∧ Blk w' w.heap.size #[.int .i64 5, .int .i64 a, .int .i64 b, .string s, .string t] 23 ∧ Blk w' (w.heap.size + 1) #[.int .i64 5, Sel (f 5) (.int .i64 a) (.int .i64 0), Sel (f 7) (.int .i64 b) (.int .i64 0), .string ⟨#[]⟩, .string ⟨#[]⟩] 23) (by kernel_rfl) (by kernel_rfl) ?_ ?_
    · exact ⟨(((Below.refl _ _).alloc (Nat.le_refl _) _).alloc (by simp) _).drew, ((Blk.new _ _ _).alloc _).drew, (Blk.new' (by simp)).drew⟩
    · iterate 5
        apply wpJ_op rfl (by rfl)
        · intro f w' hf hJ Q1 hQ
          obtain ⟨hb, h1, h2⟩ := hJ
          have c1 := h1.rd
          simp only [Act.put, List.setIfInBounds_toArray, List.set_cons_zero, List.set_cons_succ] at hQ
          go_wp2
          exact hQ _ _ rfl ⟨hb, h1, h2⟩
        simp only [Act.put, List.setIfInBounds_toArray, List.set_cons_zero, List.set_cons_succ]
      apply wpJ_op (v := undef) rfl (by rfl)
      · intro f w' hf hJ Q1 hQ
        obtain ⟨hb, h1, h2⟩ := hJ
        have c2 := h2.rd
        have f2 := h2.nf
        simp only [Act.put, List.setIfInBounds_toArray, List.set_cons_zero, List.set_cons_succ] at hQ
        go_wp2
        refine hQ _ _ rfl ⟨hb.setCell (by simp) _, h1.set_ne (by simp) _, Blk.of (h2.set _ _) rfl⟩
      simp only [Act.put, List.setIfInBounds_toArray, List.set_cons_zero, List.set_cons_succ]
      apply wpJ_op rfl (by rfl)
      · intro f w' hf hJ Q1 hQ
        obtain ⟨hb, h1, h2⟩ := hJ
        simp only [Act.put, List.setIfInBounds_toArray, List.set_cons_zero, List.set_cons_succ] at hQ
        go_wp2
        exact hQ _ _ rfl ⟨hb, h1, h2⟩
      simp only [Act.put, List.setIfInBounds_toArray, List.set_cons_zero, List.set_cons_succ]
      apply wpJ_op (v := undef) rfl (by rfl)
      · intro f w' hf hJ Q1 hQ
        obtain ⟨hb, h1, h2⟩ := hJ
        have c2 := h2.rd
        have f2 := h2.nf
        simp only [Act.put, List.setIfInBounds_toArray, List.set_cons_zero, List.set_cons_succ] at hQ
        go_wp2
        refine hQ _ _ rfl ⟨hb.setCell (by simp) _, h1.set_ne (by simp) _, Blk.of (h2.set _ _) rfl⟩
      simp only [Act.put, List.setIfInBounds_toArray, List.set_cons_zero, List.set_cons_succ]
      refine wpJ_nil ?_
      intro w1 hJ
      obtain ⟨hb, h1, h2⟩ := hJ
      replace h2 : Blk w1 (w.heap.size + 1) #[.int .i64 5, .int .i64 a, .int .i64 b, .string ⟨#[]⟩, .string ⟨#[]⟩] 23 := h2
      have c1 := h1.rd
      have c2 := h2.rd
      go_wp2_with (go_at_call 47; refine (in_any _ _ _).mono ?_; rintro e w' ⟨rfl, rfl⟩)
      all_goals
        go_ret
        refine ⟨ret_bool ?_, hb⟩
        clear c1 c2 h1 h2 hb
        have e1 := @emp_size s
        have e2 := @emp_size t
        grind [emp, path_emp, path_t, path_f, path_f2, withinB]
set_option maxRecDepth 100000 in
set_option maxHeartbeats 1000000 in
theorem rmay_6 (a b : Int) (s t : ByteArray) (w : World) : Calls Tryz.prog 48 #[.agg #[.int .i64 6, .int .i64 a, .int .i64 b, .string s, .string t]] w fun e w' => e = .returned (.bool (mayB 6 a b s t)) ∧ Below w.heap.size w w' := by
  rw [mayB_6]
  go_enter Tryz.func48, Tryz.ntmps48
  go_wp2_with (go_at_call 47; refine (in_any _ _ _).mono ?_; rintro e w' ⟨rfl, rfl⟩)
  all_goals
    go_ret
    refine ⟨ret_bool ?_, ?_⟩
    · have e1 := @emp_size s
      have e2 := @emp_size t
      grind [emp, path_emp, path_t, path_f, path_f2, withinB]
    · first | exact (((Below.refl _ _).alloc (Nat.le_refl _) _).alloc (by simp) _).setCell (by simp) _ | exact ((Below.refl _ _).alloc (Nat.le_refl _) _).alloc (by simp) _
set_option maxRecDepth 100000 in
set_option maxHeartbeats 1000000 in
theorem rmay_7 (a b : Int) (s t : ByteArray) (w : World) : Calls Tryz.prog 48 #[.agg #[.int .i64 7, .int .i64 a, .int .i64 b, .string s, .string t]] w fun e w' => e = .returned (.bool (mayB 7 a b s t)) ∧ Below w.heap.size w w' := by
  rw [mayB_7]
  go_enter Tryz.func48, Tryz.ntmps48
  go_wp2_with (go_at_call 47; refine (in_any _ _ _).mono ?_; rintro e w' ⟨rfl, rfl⟩)
  all_goals
    refine region_J (fun f w' => Below w.heap.size w w' ∧ Blk w' w.heap.size #[.int .i64 7, .int .i64 a, .int .i64 b, .string s, .string t] 23 ∧ Blk w' (w.heap.size + 1) #[.int .i64 7, .int .i64 0, .int .i64 0, Sel (f 5) (.string s) (.string ⟨#[]⟩), Sel (f 7) (.string t) (.string ⟨#[]⟩)] 23) (by kernel_rfl) (by kernel_rfl) ?_ ?_
    · exact ⟨(((Below.refl _ _).alloc (Nat.le_refl _) _).alloc (by simp) _).drew, ((Blk.new _ _ _).alloc _).drew, (Blk.new' (by simp)).drew⟩
    · iterate 5
        apply wpJ_op rfl (by rfl)
        · intro f w' hf hJ Q1 hQ
          obtain ⟨hb, h1, h2⟩ := hJ
          have c1 := h1.rd
          simp only [Act.put, List.setIfInBounds_toArray, List.set_cons_zero, List.set_cons_succ] at hQ
          go_wp2
          exact hQ _ _ rfl ⟨hb, h1, h2⟩
        simp only [Act.put, List.setIfInBounds_toArray, List.set_cons_zero, List.set_cons_succ]
      apply wpJ_op (v := undef) rfl (by rfl)
      · intro f w' hf hJ Q1 hQ
        obtain ⟨hb, h1, h2⟩ := hJ
        have c2 := h2.rd
        have f2 := h2.nf
        simp only [Act.put, List.setIfInBounds_toArray, List.set_cons_zero, List.set_cons_succ] at hQ
        go_wp2
        refine hQ _ _ rfl ⟨hb.setCell (by simp) _, h1.set_ne (by simp) _, Blk.of (h2.set _ _) rfl⟩
      simp only [Act.put, List.setIfInBounds_toArray, List.set_cons_zero, List.set_cons_succ]
      apply wpJ_op rfl (by rfl)
      · intro f w' hf hJ Q1 hQ
        obtain ⟨hb, h1, h2⟩ := hJ
        simp only [Act.put, List.setIfInBounds_toArray, List.set_cons_zero, List.set_cons_succ] at hQ
        go_wp2
        exact hQ _ _ rfl ⟨hb, h1, h2⟩
      simp only [Act.put, List.setIfInBounds_toArray, List.set_cons_zero, List.set_cons_succ]
      apply wpJ_op (v := undef) rfl (by rfl)
      · intro f w' hf hJ Q1 hQ
        obtain ⟨hb, h1, h2⟩ := hJ
        have c2 := h2.rd
        have f2 := h2.nf
        simp only [Act.put, List.setIfInBounds_toArray, List.set_cons_zero, List.set_cons_succ] at hQ
        go_wp2
        refine hQ _ _ rfl ⟨hb.setCell (by simp) _, h1.set_ne (by simp) _, Blk.of (h2.set _ _) rfl⟩
      simp only [Act.put, List.setIfInBounds_toArray, List.set_cons_zero, List.set_cons_succ]
      refine wpJ_nil ?_
      intro w1 hJ
      obtain ⟨hb, h1, h2⟩ := hJ
      replace h2 : Blk w1 (w.heap.size + 1) #[.int .i64 7, .int .i64 0, .int .i64 0, .string s, .string t] 23 := h2
      have c1 := h1.rd
      have c2 := h2.rd
      go_wp2_with (go_at_call 47; refine (in_any _ _ _).mono ?_; rintro e w' ⟨rfl, rfl⟩)
      all_goals
        go_ret
        refine ⟨ret_bool ?_, hb⟩
        clear c1 c2 h1 h2 hb
        have e1 := @emp_size s
        have e2 := @emp_size t
        grind [emp, path_emp, path_t, path_f, path_f2, withinB]
set_option maxRecDepth 100000 in
set_option maxHeartbeats 1000000 in
theorem rmay_8 (a b : Int) (s t : ByteArray) (w : World) : Calls Tryz.prog 48 #[.agg #[.int .i64 8, .int .i64 a, .int .i64 b, .string s, .string t]] w fun e w' => e = .returned (.bool (mayB 8 a b s t)) ∧ Below w.heap.size w w' := by
  rw [mayB_8]
  go_enter Tryz.func48, Tryz.ntmps48
  go_wp2_with (go_at_call 47; refine (in_any _ _ _).mono ?_; rintro e w' ⟨rfl, rfl⟩)
  all_goals
    go_ret
    refine ⟨ret_bool ?_, ?_⟩
    · have e1 := @emp_size s
      have e2 := @emp_size t
      grind [emp, path_emp, path_t, path_f, path_f2, withinB]
    · first | exact (((Below.refl _ _).alloc (Nat.le_refl _) _).alloc (by simp) _).setCell (by simp) _ | exact ((Below.refl _ _).alloc (Nat.le_refl _) _).alloc (by simp) _
set_option maxRecDepth 100000 in
set_option maxHeartbeats 1000000 in
theorem rmay_9 (a b : Int) (s t : ByteArray) (w : World) : Calls Tryz.prog 48 #[.agg #[.int .i64 9, .int .i64 a, .int .i64 b, .string s, .string t]] w fun e w' => e = .returned (.bool (mayB 9 a b s t)) ∧ Below w.heap.size w w' := by
  rw [mayB_9]
  go_enter Tryz.func48, Tryz.ntmps48
  go_wp2_with (go_at_call 47; refine (in_any _ _ _).mono ?_; rintro e w' ⟨rfl, rfl⟩)
  all_goals
    go_ret
    refine ⟨ret_bool ?_, ?_⟩
    · have e1 := @emp_size s
      have e2 := @emp_size t
      grind [emp, path_emp, path_t, path_f, path_f2, withinB]
    · first | exact (((Below.refl _ _).alloc (Nat.le_refl _) _).alloc (by simp) _).setCell (by simp) _ | exact ((Below.refl _ _).alloc (Nat.le_refl _) _).alloc (by simp) _
set_option maxRecDepth 100000 in
set_option maxHeartbeats 1000000 in
theorem rmay_10 (a b : Int) (s t : ByteArray) (w : World) : Calls Tryz.prog 48 #[.agg #[.int .i64 10, .int .i64 a, .int .i64 b, .string s, .string t]] w fun e w' => e = .returned (.bool (mayB 10 a b s t)) ∧ Below w.heap.size w w' := by
  rw [mayB_10]
  go_enter Tryz.func48, Tryz.ntmps48
  go_wp2_with (go_at_call 47; refine (in_any _ _ _).mono ?_; rintro e w' ⟨rfl, rfl⟩)
  all_goals
    go_ret
    refine ⟨ret_bool ?_, ?_⟩
    · have e1 := @emp_size s
      have e2 := @emp_size t
      grind [emp, path_emp, path_t, path_f, path_f2, withinB]
    · first | exact (((Below.refl _ _).alloc (Nat.le_refl _) _).alloc (by simp) _).setCell (by simp) _ | exact ((Below.refl _ _).alloc (Nat.le_refl _) _).alloc (by simp) _
set_option maxRecDepth 100000 in
set_option maxHeartbeats 1000000 in
theorem rmay_11 (a b : Int) (s t : ByteArray) (w : World) : Calls Tryz.prog 48 #[.agg #[.int .i64 11, .int .i64 a, .int .i64 b, .string s, .string t]] w fun e w' => e = .returned (.bool (mayB 11 a b s t)) ∧ Below w.heap.size w w' := by
  rw [mayB_11]
  go_enter Tryz.func48, Tryz.ntmps48
  go_wp2_with (go_at_call 47; refine (in_any _ _ _).mono ?_; rintro e w' ⟨rfl, rfl⟩)
  all_goals
    go_ret
    refine ⟨ret_bool ?_, ?_⟩
    · have e1 := @emp_size s
      have e2 := @emp_size t
      grind [emp, path_emp, path_t, path_f, path_f2, withinB]
    · first | exact (((Below.refl _ _).alloc (Nat.le_refl _) _).alloc (by simp) _).setCell (by simp) _ | exact ((Below.refl _ _).alloc (Nat.le_refl _) _).alloc (by simp) _
set_option maxRecDepth 100000 in
set_option maxHeartbeats 1000000 in
theorem rmay_12 (a b : Int) (s t : ByteArray) (w : World) : Calls Tryz.prog 48 #[.agg #[.int .i64 12, .int .i64 a, .int .i64 b, .string s, .string t]] w fun e w' => e = .returned (.bool (mayB 12 a b s t)) ∧ Below w.heap.size w w' := by
  rw [mayB_12]
  go_enter Tryz.func48, Tryz.ntmps48
  go_wp2_with (go_at_call 47; refine (in_any _ _ _).mono ?_; rintro e w' ⟨rfl, rfl⟩)
  all_goals
    go_ret
    refine ⟨ret_bool ?_, ?_⟩
    · have e1 := @emp_size s
      have e2 := @emp_size t
      grind [emp, path_emp, path_t, path_f, path_f2, withinB]
    · first | exact (((Below.refl _ _).alloc (Nat.le_refl _) _).alloc (by simp) _).setCell (by simp) _ | exact ((Below.refl _ _).alloc (Nat.le_refl _) _).alloc (by simp) _
set_option maxRecDepth 100000 in
set_option maxHeartbeats 1000000 in
theorem rmay_13 (a b : Int) (s t : ByteArray) (w : World) : Calls Tryz.prog 48 #[.agg #[.int .i64 13, .int .i64 a, .int .i64 b, .string s, .string t]] w fun e w' => e = .returned (.bool (mayB 13 a b s t)) ∧ Below w.heap.size w w' := by
  rw [mayB_13]
  go_enter Tryz.func48, Tryz.ntmps48
  go_wp2_with (go_at_call 47; refine (in_any _ _ _).mono ?_; rintro e w' ⟨rfl, rfl⟩)
  all_goals
    go_ret
    refine ⟨ret_bool ?_, ?_⟩
    · have e1 := @emp_size s
      have e2 := @emp_size t
      grind [emp, path_emp, path_t, path_f, path_f2, withinB]
    · first | exact (((Below.refl _ _).alloc (Nat.le_refl _) _).alloc (by simp) _).setCell (by simp) _ | exact ((Below.refl _ _).alloc (Nat.le_refl _) _).alloc (by simp) _
set_option maxRecDepth 100000 in
set_option maxHeartbeats 1000000 in
theorem rmay_14 (a b : Int) (s t : ByteArray) (w : World) : Calls Tryz.prog 48 #[.agg #[.int .i64 14, .int .i64 a, .int .i64 b, .string s, .string t]] w fun e w' => e = .returned (.bool (mayB 14 a b s t)) ∧ Below w.heap.size w w' := by
  rw [mayB_14]
  go_enter Tryz.func48, Tryz.ntmps48
  go_wp2_with (go_at_call 47; refine (in_any _ _ _).mono ?_; rintro e w' ⟨rfl, rfl⟩)
  all_goals
    go_ret
    refine ⟨ret_bool ?_, ?_⟩
    · have e1 := @emp_size s
      have e2 := @emp_size t
      grind [emp, path_emp, path_t, path_f, path_f2, withinB]
    · first | exact (((Below.refl _ _).alloc (Nat.le_refl _) _).alloc (by simp) _).setCell (by simp) _ | exact ((Below.refl _ _).alloc (Nat.le_refl _) _).alloc (by simp) _
set_option maxRecDepth 100000 in
set_option maxHeartbeats 1000000 in
theorem rmay_15 (a b : Int) (s t : ByteArray) (w : World) : Calls Tryz.prog 48 #[.agg #[.int .i64 15, .int .i64 a, .int .i64 b, .string s, .string t]] w fun e w' => e = .returned (.bool (mayB 15 a b s t)) ∧ Below w.heap.size w w' := by
  rw [mayB_15]
  go_enter Tryz.func48, Tryz.ntmps48
  go_wp2_with (go_at_call 47; refine (in_any _ _ _).mono ?_; rintro e w' ⟨rfl, rfl⟩)
  all_goals
    go_ret
    refine ⟨ret_bool ?_, ?_⟩
    · have e1 := @emp_size s
      have e2 := @emp_size t
      grind [emp, path_emp, path_t, path_f, path_f2, withinB]
    · first | exact (((Below.refl _ _).alloc (Nat.le_refl _) _).alloc (by simp) _).setCell (by simp) _ | exact ((Below.refl _ _).alloc (Nat.le_refl _) _).alloc (by simp) _
set_option maxRecDepth 100000 in
set_option maxHeartbeats 1000000 in
theorem rmay_16 (a b : Int) (s t : ByteArray) (w : World) : Calls Tryz.prog 48 #[.agg #[.int .i64 16, .int .i64 a, .int .i64 b, .string s, .string t]] w fun e w' => e = .returned (.bool (mayB 16 a b s t)) ∧ Below w.heap.size w w' := by
  rw [mayB_16]
  go_enter Tryz.func48, Tryz.ntmps48
  go_wp2_with (go_at_call 47; refine (in_any _ _ _).mono ?_; rintro e w' ⟨rfl, rfl⟩)
  all_goals
    go_ret
    refine ⟨ret_bool ?_, ?_⟩
    · have e1 := @emp_size s
      have e2 := @emp_size t
      grind [emp, path_emp, path_t, path_f, path_f2, withinB]
    · first | exact (((Below.refl _ _).alloc (Nat.le_refl _) _).alloc (by simp) _).setCell (by simp) _ | exact ((Below.refl _ _).alloc (Nat.le_refl _) _).alloc (by simp) _
set_option maxRecDepth 100000 in
set_option maxHeartbeats 1000000 in
theorem rmay_17 (a b : Int) (s t : ByteArray) (w : World) : Calls Tryz.prog 48 #[.agg #[.int .i64 17, .int .i64 a, .int .i64 b, .string s, .string t]] w fun e w' => e = .returned (.bool (mayB 17 a b s t)) ∧ Below w.heap.size w w' := by
  rw [mayB_17]
  go_enter Tryz.func48, Tryz.ntmps48
  go_wp2_with (go_at_call 47; refine (in_any _ _ _).mono ?_; rintro e w' ⟨rfl, rfl⟩)
  all_goals
    go_ret
    refine ⟨ret_bool ?_, ?_⟩
    · have e1 := @emp_size s
      have e2 := @emp_size t
      grind [emp, path_emp, path_t, path_f, path_f2, withinB]
    · first | exact (((Below.refl _ _).alloc (Nat.le_refl _) _).alloc (by simp) _).setCell (by simp) _ | exact ((Below.refl _ _).alloc (Nat.le_refl _) _).alloc (by simp) _
set_option maxRecDepth 100000 in
theorem rmay_x (sys a b : Int) (s t : ByteArray) (h : sys < 1 ∨ 17 < sys) (w : World) : Calls Tryz.prog 48 #[.agg #[.int .i64 sys, .int .i64 a, .int .i64 b, .string s, .string t]] w fun e w' => e = .returned (.bool (mayB sys a b s t)) ∧ Below w.heap.size w w' := by
  have hm := mayB_x h a b s t
  rw [hm]
  clear hm
  go_enter Tryz.func48, Tryz.ntmps48
  go_wp2
  all_goals
    go_ret
    exact ⟨rfl, ((Below.refl _ _).alloc (Nat.le_refl _) _).alloc (by simp) _⟩

/-- The document's MayCall, of any call. -/
theorem rmay_any (sys a b : Int) (s t : ByteArray) (w : World) : Calls Tryz.prog 48 #[.agg #[.int .i64 sys, .int .i64 a, .int .i64 b, .string s, .string t]] w fun e w' => e = .returned (.bool (mayB sys a b s t)) ∧ Below w.heap.size w w' := by
  by_cases hx : sys < 1 ∨ 17 < sys
  · exact rmay_x sys a b s t hx w
  · have hc : sys = 1 ∨ sys = 2 ∨ sys = 3 ∨ sys = 4 ∨ sys = 5 ∨ sys = 6 ∨ sys = 7 ∨ sys = 8 ∨ sys = 9 ∨ sys = 10 ∨ sys = 11 ∨ sys = 12 ∨ sys = 13 ∨ sys = 14 ∨ sys = 15 ∨ sys = 16 ∨ sys = 17 := by omega
    rcases hc with rfl | rfl | rfl | rfl | rfl | rfl | rfl | rfl | rfl | rfl | rfl | rfl | rfl | rfl | rfl | rfl | rfl
    · exact rmay_1 a b s t w
    · exact rmay_2 a b s t w
    · exact rmay_3 a b s t w
    · exact rmay_4 a b s t w
    · exact rmay_5 a b s t w
    · exact rmay_6 a b s t w
    · exact rmay_7 a b s t w
    · exact rmay_8 a b s t w
    · exact rmay_9 a b s t w
    · exact rmay_10 a b s t w
    · exact rmay_11 a b s t w
    · exact rmay_12 a b s t w
    · exact rmay_13 a b s t w
    · exact rmay_14 a b s t w
    · exact rmay_15 a b s t w
    · exact rmay_16 a b s t w
    · exact rmay_17 a b s t w
end Go.Proofs.YtefaaginedideaaGreatDoor
