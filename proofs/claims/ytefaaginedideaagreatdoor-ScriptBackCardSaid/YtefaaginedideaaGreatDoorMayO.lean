/-
  May a step be: the program's May, at every step.
-/
import Derived.Test.YtefaaginedideaaGreatDoorMay
namespace Go.Proofs.YtefaaginedideaaGreatDoor
set_option linter.unusedSimpArgs false
set_option linter.unusedVariables false
open Go.RowKit RegJ

theorem mayc_is {y p q : Int} {s t : ByteArray} {v : Bool} (h : mayB y p q s t = v) (w : World) : Calls Tryz.prog 78 #[.agg #[.int .i64 y, .int .i64 p, .int .i64 q, .string s, .string t]] w fun e w' => e = .returned (.bool v) ∧ Below w.heap.size w w' := h ▸ may_any y p q s t w
set_option maxRecDepth 100000 in
theorem none_any (k a b c y p q : Int) (s t : ByteArray) (w : World) :
    Calls Tryz.prog 51 #[.agg #[.int .i64 k, .int .i64 a, .int .i64 b, .int .i64 c, .int .i64 y, .int .i64 p, .int .i64 q, .string s, .string t]] w fun e w' => e = .returned (.tuple #[.agg #[.int .i64 0, .int .i64 0, .int .i64 0, .int .i64 0, .int .i64 0, .int .i64 0, .int .i64 0, .string ⟨#[]⟩, .string ⟨#[]⟩], .bool true]) ∧ Below w.heap.size w w' := by
  go_enter Tryz.func51, Tryz.ntmps51
  go_wp2
  exact bodyPost_ret (v := .tuple #[.agg #[.int .i64 0, .int .i64 0, .int .i64 0, .int .i64 0, .int .i64 0, .int .i64 0, .int .i64 0, .string ⟨#[]⟩, .string ⟨#[]⟩], .bool true]) (by simp [results, Tryz.results51, go_sem]) rfl ⟨rfl, ((Below.refl _ _).alloc (Nat.le_refl _) _).alloc (by simp) _⟩
set_option maxRecDepth 100000 in
theorem ticks_any (k a b c y p q : Int) (s t : ByteArray) (w : World) :
    Calls Tryz.prog 52 #[.agg #[.int .i64 k, .int .i64 a, .int .i64 b, .int .i64 c, .int .i64 y, .int .i64 p, .int .i64 q, .string s, .string t]] w fun e w' => e = .returned (.tuple #[.agg #[.int .i64 0, .int .i64 a, .int .i64 0, .int .i64 0, .int .i64 0, .int .i64 0, .int .i64 0, .string ⟨#[]⟩, .string ⟨#[]⟩], .bool (withinB a 1 1000)]) ∧ Below w.heap.size w w' := by
  go_enter Tryz.func52, Tryz.ntmps52
  go_wp2
  refine region_J (fun f w' => Below w.heap.size w w' ∧ Blk w' w.heap.size #[.int .i64 k, .int .i64 a, .int .i64 b, .int .i64 c, .int .i64 y, .int .i64 p, .int .i64 q, .string s, .string t] 25 ∧ Blk w' (w.heap.size + 1) (Sel (f 6) #[.int .i64 0, .int .i64 a, .int .i64 0, .int .i64 0, .int .i64 0, .int .i64 0, .int .i64 0, .string ⟨#[]⟩, .string ⟨#[]⟩] #[.int .i64 0, .int .i64 0, .int .i64 0, .int .i64 0, .int .i64 0, .int .i64 0, .int .i64 0, .string ⟨#[]⟩, .string ⟨#[]⟩]) 25) (by kernel_rfl) (by kernel_rfl) ?_ ?_
  · exact ⟨(((Below.refl _ _).alloc (Nat.le_refl _) _).alloc (by simp) _).drew, ((Blk.new _ _ _).alloc _).drew, (Blk.new' (by simp)).drew⟩
  · iterate 6
      apply wpJ_op rfl (by rfl)
      · intro f w' hf hJ Q1 hQ
        obtain ⟨hb, h1, h2⟩ := hJ; have c1 := h1.rd
        simp only [Act.put, List.setIfInBounds_toArray, List.set_cons_zero, List.set_cons_succ] at hQ
        go_wp2_with (first | (go_at_call 77; refine (within_is (by first | assumption | rfl) _).mono ?_; rintro e w' ⟨rfl, rfl⟩))
        exact hQ _ _ rfl ⟨hb, h1, h2⟩
      simp only [Act.put, List.setIfInBounds_toArray, List.set_cons_zero, List.set_cons_succ]
    apply wpJ_op (v := undef) rfl (by rfl)
    · intro f w' hf hJ Q1 hQ
      obtain ⟨hb, h1, h2⟩ := hJ
      have hff : f 6 = false := hf.1
      rw [hff, Sel_false] at h2
      have c1 := h2.rd
      have f1 := h2.nf
      simp only [Act.put, List.setIfInBounds_toArray, List.set_cons_zero, List.set_cons_succ] at hQ
      go_wp2
      refine hQ _ _ rfl ⟨?_, ?_, ?_⟩
      · iterate 9 refine Below.setCell ?_ (show w.heap.size ≤ w.heap.size + 1 from Nat.le_succ _) _
        exact hb
      · iterate 9 refine Blk.set_ne ?_ (show w.heap.size ≠ w.heap.size + 1 from Nat.ne_of_lt (Nat.lt_succ_self _)) _
        exact h1
      · refine Blk.of (((((((((h2.set 0 _).set 1 _).set 2 _).set 3 _).set 4 _).set 5 _).set 6 _).set 7 _).set 8 _) ?_
        rw [show fset f 6 6 = true by simp [fset], Sel_true]
        simp only [Act.put, List.setIfInBounds_toArray, List.set_cons_zero, List.set_cons_succ]
    simp only [Act.put, List.setIfInBounds_toArray, List.set_cons_zero, List.set_cons_succ]
    apply wpJ_op rfl (by rfl)
    · intro f w' hf hJ Q1 hQ
      obtain ⟨hb, h1, h2⟩ := hJ
      simp only [Act.put, List.setIfInBounds_toArray, List.set_cons_zero, List.set_cons_succ] at hQ
      go_wp2
      exact hQ _ _ rfl ⟨hb, h1, h2⟩
    simp only [Act.put, List.setIfInBounds_toArray, List.set_cons_zero, List.set_cons_succ]
    refine wpJ_nil ?_
    intro w' hJ
    obtain ⟨hb, h1, h2⟩ := hJ
    have h2 : Blk w' (w.heap.size + 1) #[.int .i64 0, .int .i64 a, .int .i64 0, .int .i64 0, .int .i64 0, .int .i64 0, .int .i64 0, .string ⟨#[]⟩, .string ⟨#[]⟩] 25 := h2
    have c1 := h2.rd
    go_wp2
    exact bodyPost_ret (v := .tuple #[.agg #[.int .i64 0, .int .i64 a, .int .i64 0, .int .i64 0, .int .i64 0, .int .i64 0, .int .i64 0, .string ⟨#[]⟩, .string ⟨#[]⟩], .bool (withinB a 1 1000)]) (by simp [results, Tryz.results52, go_sem, c1]) rfl ⟨rfl, hb⟩
set_option maxRecDepth 100000 in
theorem mutex_any (k a b c y p q : Int) (s t : ByteArray) (w : World) :
    Calls Tryz.prog 53 #[.agg #[.int .i64 k, .int .i64 a, .int .i64 b, .int .i64 c, .int .i64 y, .int .i64 p, .int .i64 q, .string s, .string t]] w fun e w' => e = .returned (.tuple #[.agg #[.int .i64 0, .int .i64 a, .int .i64 0, .int .i64 0, .int .i64 0, .int .i64 0, .int .i64 0, .string ⟨#[]⟩, .string ⟨#[]⟩], .bool (withinB a 0 5)]) ∧ Below w.heap.size w w' := by
  go_enter Tryz.func53, Tryz.ntmps53
  go_wp2
  refine region_J (fun f w' => Below w.heap.size w w' ∧ Blk w' w.heap.size #[.int .i64 k, .int .i64 a, .int .i64 b, .int .i64 c, .int .i64 y, .int .i64 p, .int .i64 q, .string s, .string t] 25 ∧ Blk w' (w.heap.size + 1) (Sel (f 6) #[.int .i64 0, .int .i64 a, .int .i64 0, .int .i64 0, .int .i64 0, .int .i64 0, .int .i64 0, .string ⟨#[]⟩, .string ⟨#[]⟩] #[.int .i64 0, .int .i64 0, .int .i64 0, .int .i64 0, .int .i64 0, .int .i64 0, .int .i64 0, .string ⟨#[]⟩, .string ⟨#[]⟩]) 25) (by kernel_rfl) (by kernel_rfl) ?_ ?_
  · exact ⟨(((Below.refl _ _).alloc (Nat.le_refl _) _).alloc (by simp) _).drew, ((Blk.new _ _ _).alloc _).drew, (Blk.new' (by simp)).drew⟩
  · iterate 6
      apply wpJ_op rfl (by rfl)
      · intro f w' hf hJ Q1 hQ
        obtain ⟨hb, h1, h2⟩ := hJ; have c1 := h1.rd
        simp only [Act.put, List.setIfInBounds_toArray, List.set_cons_zero, List.set_cons_succ] at hQ
        go_wp2_with (first | (go_at_call 77; refine (within_is (by first | assumption | rfl) _).mono ?_; rintro e w' ⟨rfl, rfl⟩))
        exact hQ _ _ rfl ⟨hb, h1, h2⟩
      simp only [Act.put, List.setIfInBounds_toArray, List.set_cons_zero, List.set_cons_succ]
    apply wpJ_op (v := undef) rfl (by rfl)
    · intro f w' hf hJ Q1 hQ
      obtain ⟨hb, h1, h2⟩ := hJ
      have hff : f 6 = false := hf.1
      rw [hff, Sel_false] at h2
      have c1 := h2.rd
      have f1 := h2.nf
      simp only [Act.put, List.setIfInBounds_toArray, List.set_cons_zero, List.set_cons_succ] at hQ
      go_wp2
      refine hQ _ _ rfl ⟨?_, ?_, ?_⟩
      · iterate 9 refine Below.setCell ?_ (show w.heap.size ≤ w.heap.size + 1 from Nat.le_succ _) _
        exact hb
      · iterate 9 refine Blk.set_ne ?_ (show w.heap.size ≠ w.heap.size + 1 from Nat.ne_of_lt (Nat.lt_succ_self _)) _
        exact h1
      · refine Blk.of (((((((((h2.set 0 _).set 1 _).set 2 _).set 3 _).set 4 _).set 5 _).set 6 _).set 7 _).set 8 _) ?_
        rw [show fset f 6 6 = true by simp [fset], Sel_true]
        simp only [Act.put, List.setIfInBounds_toArray, List.set_cons_zero, List.set_cons_succ]
    simp only [Act.put, List.setIfInBounds_toArray, List.set_cons_zero, List.set_cons_succ]
    apply wpJ_op rfl (by rfl)
    · intro f w' hf hJ Q1 hQ
      obtain ⟨hb, h1, h2⟩ := hJ
      simp only [Act.put, List.setIfInBounds_toArray, List.set_cons_zero, List.set_cons_succ] at hQ
      go_wp2
      exact hQ _ _ rfl ⟨hb, h1, h2⟩
    simp only [Act.put, List.setIfInBounds_toArray, List.set_cons_zero, List.set_cons_succ]
    refine wpJ_nil ?_
    intro w' hJ
    obtain ⟨hb, h1, h2⟩ := hJ
    have h2 : Blk w' (w.heap.size + 1) #[.int .i64 0, .int .i64 a, .int .i64 0, .int .i64 0, .int .i64 0, .int .i64 0, .int .i64 0, .string ⟨#[]⟩, .string ⟨#[]⟩] 25 := h2
    have c1 := h2.rd
    go_wp2
    exact bodyPost_ret (v := .tuple #[.agg #[.int .i64 0, .int .i64 a, .int .i64 0, .int .i64 0, .int .i64 0, .int .i64 0, .int .i64 0, .string ⟨#[]⟩, .string ⟨#[]⟩], .bool (withinB a 0 5)]) (by simp [results, Tryz.results53, go_sem, c1]) rfl ⟨rfl, hb⟩
set_option maxRecDepth 100000 in
theorem jump_any (k a b c y p q : Int) (s t : ByteArray) (w : World) :
    Calls Tryz.prog 54 #[.agg #[.int .i64 k, .int .i64 a, .int .i64 b, .int .i64 c, .int .i64 y, .int .i64 p, .int .i64 q, .string s, .string t]] w fun e w' => e = .returned (.tuple #[.agg #[.int .i64 0, .int .i64 a, .int .i64 0, .int .i64 0, .int .i64 0, .int .i64 0, .int .i64 0, .string ⟨#[]⟩, .string ⟨#[]⟩], .bool (withinB a 0 39)]) ∧ Below w.heap.size w w' := by
  go_enter Tryz.func54, Tryz.ntmps54
  go_wp2
  refine region_J (fun f w' => Below w.heap.size w w' ∧ Blk w' w.heap.size #[.int .i64 k, .int .i64 a, .int .i64 b, .int .i64 c, .int .i64 y, .int .i64 p, .int .i64 q, .string s, .string t] 25 ∧ Blk w' (w.heap.size + 1) (Sel (f 6) #[.int .i64 0, .int .i64 a, .int .i64 0, .int .i64 0, .int .i64 0, .int .i64 0, .int .i64 0, .string ⟨#[]⟩, .string ⟨#[]⟩] #[.int .i64 0, .int .i64 0, .int .i64 0, .int .i64 0, .int .i64 0, .int .i64 0, .int .i64 0, .string ⟨#[]⟩, .string ⟨#[]⟩]) 25) (by kernel_rfl) (by kernel_rfl) ?_ ?_
  · exact ⟨(((Below.refl _ _).alloc (Nat.le_refl _) _).alloc (by simp) _).drew, ((Blk.new _ _ _).alloc _).drew, (Blk.new' (by simp)).drew⟩
  · iterate 6
      apply wpJ_op rfl (by rfl)
      · intro f w' hf hJ Q1 hQ
        obtain ⟨hb, h1, h2⟩ := hJ; have c1 := h1.rd
        simp only [Act.put, List.setIfInBounds_toArray, List.set_cons_zero, List.set_cons_succ] at hQ
        go_wp2_with (first | (go_at_call 77; refine (within_is (by first | assumption | rfl) _).mono ?_; rintro e w' ⟨rfl, rfl⟩))
        exact hQ _ _ rfl ⟨hb, h1, h2⟩
      simp only [Act.put, List.setIfInBounds_toArray, List.set_cons_zero, List.set_cons_succ]
    apply wpJ_op (v := undef) rfl (by rfl)
    · intro f w' hf hJ Q1 hQ
      obtain ⟨hb, h1, h2⟩ := hJ
      have hff : f 6 = false := hf.1
      rw [hff, Sel_false] at h2
      have c1 := h2.rd
      have f1 := h2.nf
      simp only [Act.put, List.setIfInBounds_toArray, List.set_cons_zero, List.set_cons_succ] at hQ
      go_wp2
      refine hQ _ _ rfl ⟨?_, ?_, ?_⟩
      · iterate 9 refine Below.setCell ?_ (show w.heap.size ≤ w.heap.size + 1 from Nat.le_succ _) _
        exact hb
      · iterate 9 refine Blk.set_ne ?_ (show w.heap.size ≠ w.heap.size + 1 from Nat.ne_of_lt (Nat.lt_succ_self _)) _
        exact h1
      · refine Blk.of (((((((((h2.set 0 _).set 1 _).set 2 _).set 3 _).set 4 _).set 5 _).set 6 _).set 7 _).set 8 _) ?_
        rw [show fset f 6 6 = true by simp [fset], Sel_true]
        simp only [Act.put, List.setIfInBounds_toArray, List.set_cons_zero, List.set_cons_succ]
    simp only [Act.put, List.setIfInBounds_toArray, List.set_cons_zero, List.set_cons_succ]
    apply wpJ_op rfl (by rfl)
    · intro f w' hf hJ Q1 hQ
      obtain ⟨hb, h1, h2⟩ := hJ
      simp only [Act.put, List.setIfInBounds_toArray, List.set_cons_zero, List.set_cons_succ] at hQ
      go_wp2
      exact hQ _ _ rfl ⟨hb, h1, h2⟩
    simp only [Act.put, List.setIfInBounds_toArray, List.set_cons_zero, List.set_cons_succ]
    refine wpJ_nil ?_
    intro w' hJ
    obtain ⟨hb, h1, h2⟩ := hJ
    have h2 : Blk w' (w.heap.size + 1) #[.int .i64 0, .int .i64 a, .int .i64 0, .int .i64 0, .int .i64 0, .int .i64 0, .int .i64 0, .string ⟨#[]⟩, .string ⟨#[]⟩] 25 := h2
    have c1 := h2.rd
    go_wp2
    exact bodyPost_ret (v := .tuple #[.agg #[.int .i64 0, .int .i64 a, .int .i64 0, .int .i64 0, .int .i64 0, .int .i64 0, .int .i64 0, .string ⟨#[]⟩, .string ⟨#[]⟩], .bool (withinB a 0 39)]) (by simp [results, Tryz.results54, go_sem, c1]) rfl ⟨rfl, hb⟩
set_option maxRecDepth 100000 in
theorem cond_any (k a b c y p q : Int) (s t : ByteArray) (w : World) :
    Calls Tryz.prog 56 #[.agg #[.int .i64 k, .int .i64 a, .int .i64 b, .int .i64 c, .int .i64 y, .int .i64 p, .int .i64 q, .string s, .string t]] w fun e w' => e = .returned (.tuple #[.agg #[.int .i64 0, .int .i64 a, .int .i64 0, .int .i64 0, .int .i64 0, .int .i64 0, .int .i64 0, .string ⟨#[]⟩, .string ⟨#[]⟩], .bool (withinB a 0 3)]) ∧ Below w.heap.size w w' := by
  go_enter Tryz.func56, Tryz.ntmps56
  go_wp2
  refine region_J (fun f w' => Below w.heap.size w w' ∧ Blk w' w.heap.size #[.int .i64 k, .int .i64 a, .int .i64 b, .int .i64 c, .int .i64 y, .int .i64 p, .int .i64 q, .string s, .string t] 25 ∧ Blk w' (w.heap.size + 1) (Sel (f 6) #[.int .i64 0, .int .i64 a, .int .i64 0, .int .i64 0, .int .i64 0, .int .i64 0, .int .i64 0, .string ⟨#[]⟩, .string ⟨#[]⟩] #[.int .i64 0, .int .i64 0, .int .i64 0, .int .i64 0, .int .i64 0, .int .i64 0, .int .i64 0, .string ⟨#[]⟩, .string ⟨#[]⟩]) 25) (by kernel_rfl) (by kernel_rfl) ?_ ?_
  · exact ⟨(((Below.refl _ _).alloc (Nat.le_refl _) _).alloc (by simp) _).drew, ((Blk.new _ _ _).alloc _).drew, (Blk.new' (by simp)).drew⟩
  · iterate 6
      apply wpJ_op rfl (by rfl)
      · intro f w' hf hJ Q1 hQ
        obtain ⟨hb, h1, h2⟩ := hJ; have c1 := h1.rd
        simp only [Act.put, List.setIfInBounds_toArray, List.set_cons_zero, List.set_cons_succ] at hQ
        go_wp2_with (first | (go_at_call 77; refine (within_is (by first | assumption | rfl) _).mono ?_; rintro e w' ⟨rfl, rfl⟩))
        exact hQ _ _ rfl ⟨hb, h1, h2⟩
      simp only [Act.put, List.setIfInBounds_toArray, List.set_cons_zero, List.set_cons_succ]
    apply wpJ_op (v := undef) rfl (by rfl)
    · intro f w' hf hJ Q1 hQ
      obtain ⟨hb, h1, h2⟩ := hJ
      have hff : f 6 = false := hf.1
      rw [hff, Sel_false] at h2
      have c1 := h2.rd
      have f1 := h2.nf
      simp only [Act.put, List.setIfInBounds_toArray, List.set_cons_zero, List.set_cons_succ] at hQ
      go_wp2
      refine hQ _ _ rfl ⟨?_, ?_, ?_⟩
      · iterate 9 refine Below.setCell ?_ (show w.heap.size ≤ w.heap.size + 1 from Nat.le_succ _) _
        exact hb
      · iterate 9 refine Blk.set_ne ?_ (show w.heap.size ≠ w.heap.size + 1 from Nat.ne_of_lt (Nat.lt_succ_self _)) _
        exact h1
      · refine Blk.of (((((((((h2.set 0 _).set 1 _).set 2 _).set 3 _).set 4 _).set 5 _).set 6 _).set 7 _).set 8 _) ?_
        rw [show fset f 6 6 = true by simp [fset], Sel_true]
        simp only [Act.put, List.setIfInBounds_toArray, List.set_cons_zero, List.set_cons_succ]
    simp only [Act.put, List.setIfInBounds_toArray, List.set_cons_zero, List.set_cons_succ]
    apply wpJ_op rfl (by rfl)
    · intro f w' hf hJ Q1 hQ
      obtain ⟨hb, h1, h2⟩ := hJ
      simp only [Act.put, List.setIfInBounds_toArray, List.set_cons_zero, List.set_cons_succ] at hQ
      go_wp2
      exact hQ _ _ rfl ⟨hb, h1, h2⟩
    simp only [Act.put, List.setIfInBounds_toArray, List.set_cons_zero, List.set_cons_succ]
    refine wpJ_nil ?_
    intro w' hJ
    obtain ⟨hb, h1, h2⟩ := hJ
    have h2 : Blk w' (w.heap.size + 1) #[.int .i64 0, .int .i64 a, .int .i64 0, .int .i64 0, .int .i64 0, .int .i64 0, .int .i64 0, .string ⟨#[]⟩, .string ⟨#[]⟩] 25 := h2
    have c1 := h2.rd
    go_wp2
    exact bodyPost_ret (v := .tuple #[.agg #[.int .i64 0, .int .i64 a, .int .i64 0, .int .i64 0, .int .i64 0, .int .i64 0, .int .i64 0, .string ⟨#[]⟩, .string ⟨#[]⟩], .bool (withinB a 0 3)]) (by simp [results, Tryz.results56, go_sem, c1]) rfl ⟨rfl, hb⟩
set_option maxRecDepth 100000 in
theorem asks_any (k a b c y p q : Int) (s t : ByteArray) (w : World) :
    Calls Tryz.prog 57 #[.agg #[.int .i64 k, .int .i64 a, .int .i64 b, .int .i64 c, .int .i64 y, .int .i64 p, .int .i64 q, .string s, .string t]] w fun e w' => e = .returned (.tuple #[.agg #[.int .i64 0, .int .i64 0, .int .i64 0, .int .i64 0, .int .i64 y, .int .i64 p, .int .i64 q, .string s, .string t], .bool (mayB y p q s t)]) ∧ Below w.heap.size w w' := by
  go_enter Tryz.func57, Tryz.ntmps57
  go_wp2
  refine region_J (fun f w' => Below w.heap.size w w' ∧ Blk w' w.heap.size #[.int .i64 k, .int .i64 a, .int .i64 b, .int .i64 c, .int .i64 y, .int .i64 p, .int .i64 q, .string s, .string t] 25 ∧ Blk w' (w.heap.size + 1) (Sel (f 6) #[.int .i64 0, .int .i64 0, .int .i64 0, .int .i64 0, .int .i64 y, .int .i64 p, .int .i64 q, .string s, .string t] #[.int .i64 0, .int .i64 0, .int .i64 0, .int .i64 0, .int .i64 0, .int .i64 0, .int .i64 0, .string ⟨#[]⟩, .string ⟨#[]⟩]) 25) (by kernel_rfl) (by kernel_rfl) ?_ ?_
  · exact ⟨(((Below.refl _ _).alloc (Nat.le_refl _) _).alloc (by simp) _).drew, ((Blk.new _ _ _).alloc _).drew, (Blk.new' (by simp)).drew⟩
  · iterate 5
      apply wpJ_op rfl (by rfl)
      · intro f w' hf hJ Q1 hQ
        obtain ⟨hb, h1, h2⟩ := hJ; have c1 := h1.rd
        simp only [Act.put, List.setIfInBounds_toArray, List.set_cons_zero, List.set_cons_succ] at hQ
        go_wp2_with (first | (go_at_call 77; refine (within_is (by first | assumption | rfl) _).mono ?_; rintro e w' ⟨rfl, rfl⟩))
        exact hQ _ _ rfl ⟨hb, h1, h2⟩
      simp only [Act.put, List.setIfInBounds_toArray, List.set_cons_zero, List.set_cons_succ]
    apply wpJ_op rfl (by rfl)
    · intro f w' hf hJ Q1 hQ
      obtain ⟨hb, h1, h2⟩ := hJ; have c1 := h1.rd
      simp only [Act.put, List.setIfInBounds_toArray, List.set_cons_zero, List.set_cons_succ] at hQ
      go_wp2_with (go_at_call 78; refine (may_any y p q s t _).mono ?_; rintro e w2 ⟨rfl, hb2⟩)
      exact hQ _ _ rfl ⟨hb.trans (hb2.mono hb.size), Blk.below hb2 h1 h1.lt, Blk.below hb2 h2 h2.lt⟩
    simp only [Act.put, List.setIfInBounds_toArray, List.set_cons_zero, List.set_cons_succ]
    apply wpJ_op (v := undef) rfl (by rfl)
    · intro f w' hf hJ Q1 hQ
      obtain ⟨hb, h1, h2⟩ := hJ
      have hff : f 6 = false := hf.1
      rw [hff, Sel_false] at h2
      have c1 := h2.rd
      have f1 := h2.nf
      simp only [Act.put, List.setIfInBounds_toArray, List.set_cons_zero, List.set_cons_succ] at hQ
      go_wp2
      refine hQ _ _ rfl ⟨?_, ?_, ?_⟩
      · iterate 9 refine Below.setCell ?_ (show w.heap.size ≤ w.heap.size + 1 from Nat.le_succ _) _
        exact hb
      · iterate 9 refine Blk.set_ne ?_ (show w.heap.size ≠ w.heap.size + 1 from Nat.ne_of_lt (Nat.lt_succ_self _)) _
        exact h1
      · refine Blk.of (((((((((h2.set 0 _).set 1 _).set 2 _).set 3 _).set 4 _).set 5 _).set 6 _).set 7 _).set 8 _) ?_
        rw [show fset f 6 6 = true by simp [fset], Sel_true]
        simp only [Act.put, List.setIfInBounds_toArray, List.set_cons_zero, List.set_cons_succ]
    simp only [Act.put, List.setIfInBounds_toArray, List.set_cons_zero, List.set_cons_succ]
    apply wpJ_op rfl (by rfl)
    · intro f w' hf hJ Q1 hQ
      obtain ⟨hb, h1, h2⟩ := hJ
      simp only [Act.put, List.setIfInBounds_toArray, List.set_cons_zero, List.set_cons_succ] at hQ
      go_wp2
      exact hQ _ _ rfl ⟨hb, h1, h2⟩
    simp only [Act.put, List.setIfInBounds_toArray, List.set_cons_zero, List.set_cons_succ]
    refine wpJ_nil ?_
    intro w' hJ
    obtain ⟨hb, h1, h2⟩ := hJ
    have h2 : Blk w' (w.heap.size + 1) #[.int .i64 0, .int .i64 0, .int .i64 0, .int .i64 0, .int .i64 y, .int .i64 p, .int .i64 q, .string s, .string t] 25 := h2
    have c1 := h2.rd
    go_wp2
    exact bodyPost_ret (v := .tuple #[.agg #[.int .i64 0, .int .i64 0, .int .i64 0, .int .i64 0, .int .i64 y, .int .i64 p, .int .i64 q, .string s, .string t], .bool (mayB y p q s t)]) (by simp [results, Tryz.results57, go_sem, c1]) rfl ⟨rfl, hb⟩
set_option maxRecDepth 100000 in
theorem wait_any (k a b c y p q : Int) (s t : ByteArray) (w : World) :
    Calls Tryz.prog 55 #[.agg #[.int .i64 k, .int .i64 a, .int .i64 b, .int .i64 c, .int .i64 y, .int .i64 p, .int .i64 q, .string s, .string t]] w fun e w' => e = .returned (.tuple #[.agg #[.int .i64 0, .int .i64 a, .int .i64 b, .int .i64 c, .int .i64 0, .int .i64 0, .int .i64 0, .string ⟨#[]⟩, .string ⟨#[]⟩], .bool (withinB a 0 3 && withinB b 0 5 && withinB c 0 1000)]) ∧ Below w.heap.size w w' := by
  cases h0 : withinB a 0 3
  · show Calls _ _ _ _ (fun e w' => e = .returned (.tuple #[.agg #[.int .i64 0, .int .i64 a, .int .i64 b, .int .i64 c, .int .i64 0, .int .i64 0, .int .i64 0, .string ⟨#[]⟩, .string ⟨#[]⟩], .bool false]) ∧ _)
    go_enter Tryz.func55, Tryz.ntmps55
    go_wp2_with (first | (go_at_call 77; refine (within_is (by first | assumption | rfl) _).mono ?_; rintro e w' ⟨rfl, rfl⟩))
    exact bodyPost_ret (v := .tuple #[.agg #[.int .i64 0, .int .i64 a, .int .i64 b, .int .i64 c, .int .i64 0, .int .i64 0, .int .i64 0, .string ⟨#[]⟩, .string ⟨#[]⟩], .bool false]) (by simp [results, Tryz.results55, go_sem]) rfl ⟨rfl, ((Below.refl _ _).alloc (Nat.le_refl _) _).alloc (by simp) _⟩
  · cases h1 : withinB b 0 5
    · show Calls _ _ _ _ (fun e w' => e = .returned (.tuple #[.agg #[.int .i64 0, .int .i64 a, .int .i64 b, .int .i64 c, .int .i64 0, .int .i64 0, .int .i64 0, .string ⟨#[]⟩, .string ⟨#[]⟩], .bool false]) ∧ _)
      go_enter Tryz.func55, Tryz.ntmps55
      go_wp2_with (first | (go_at_call 77; refine (within_is (by first | assumption | rfl) _).mono ?_; rintro e w' ⟨rfl, rfl⟩))
      exact bodyPost_ret (v := .tuple #[.agg #[.int .i64 0, .int .i64 a, .int .i64 b, .int .i64 c, .int .i64 0, .int .i64 0, .int .i64 0, .string ⟨#[]⟩, .string ⟨#[]⟩], .bool false]) (by simp [results, Tryz.results55, go_sem]) rfl ⟨rfl, ((Below.refl _ _).alloc (Nat.le_refl _) _).alloc (by simp) _⟩
    · cases h2 : withinB c 0 1000
      · show Calls _ _ _ _ (fun e w' => e = .returned (.tuple #[.agg #[.int .i64 0, .int .i64 a, .int .i64 b, .int .i64 c, .int .i64 0, .int .i64 0, .int .i64 0, .string ⟨#[]⟩, .string ⟨#[]⟩], .bool false]) ∧ _)
        go_enter Tryz.func55, Tryz.ntmps55
        go_wp2_with (first | (go_at_call 77; refine (within_is (by first | assumption | rfl) _).mono ?_; rintro e w' ⟨rfl, rfl⟩))
        exact bodyPost_ret (v := .tuple #[.agg #[.int .i64 0, .int .i64 a, .int .i64 b, .int .i64 c, .int .i64 0, .int .i64 0, .int .i64 0, .string ⟨#[]⟩, .string ⟨#[]⟩], .bool false]) (by simp [results, Tryz.results55, go_sem]) rfl ⟨rfl, ((Below.refl _ _).alloc (Nat.le_refl _) _).alloc (by simp) _⟩
      · show Calls _ _ _ _ (fun e w' => e = .returned (.tuple #[.agg #[.int .i64 0, .int .i64 a, .int .i64 b, .int .i64 c, .int .i64 0, .int .i64 0, .int .i64 0, .string ⟨#[]⟩, .string ⟨#[]⟩], .bool true]) ∧ _)
        go_enter Tryz.func55, Tryz.ntmps55
        go_wp2_with (first | (go_at_call 77; refine (within_is (by first | assumption | rfl) _).mono ?_; rintro e w' ⟨rfl, rfl⟩))
        exact bodyPost_ret (v := .tuple #[.agg #[.int .i64 0, .int .i64 a, .int .i64 b, .int .i64 c, .int .i64 0, .int .i64 0, .int .i64 0, .string ⟨#[]⟩, .string ⟨#[]⟩], .bool true]) (by simp [results, Tryz.results55, go_sem]) rfl ⟨rfl, ((Below.refl _ _).alloc (Nat.le_refl _) _).alloc (by simp) _⟩
theorem eql_funcO (f : Nat) (w : World) : (binOp BinOp.eql 72 (.func (.func f) #[] #[]) .nilFunc).run Tryz.prog w = .ok (.bool false) w := by kernel_rfl
theorem eql_nilO (w : World) : (binOp BinOp.eql 72 .nilFunc .nilFunc).run Tryz.prog w = .ok (.bool true) w := by kernel_rfl
theorem op_0 (w : World) : Calls Tryz.prog 29 #[.int .i64 0] w fun e w' => e = .returned (.func (.func 51) #[] #[]) ∧ w = w' := by
  go_enter Tryz.func29, Tryz.ntmps29
  go_wp2
  go_ret
  exact ⟨rfl, rfl⟩
theorem op_1 (w : World) : Calls Tryz.prog 29 #[.int .i64 1] w fun e w' => e = .returned (.func (.func 52) #[] #[]) ∧ w = w' := by
  go_enter Tryz.func29, Tryz.ntmps29
  go_wp2
  go_ret
  exact ⟨rfl, rfl⟩
theorem op_2 (w : World) : Calls Tryz.prog 29 #[.int .i64 2] w fun e w' => e = .returned (.func (.func 53) #[] #[]) ∧ w = w' := by
  go_enter Tryz.func29, Tryz.ntmps29
  go_wp2
  go_ret
  exact ⟨rfl, rfl⟩
theorem op_3 (w : World) : Calls Tryz.prog 29 #[.int .i64 3] w fun e w' => e = .returned (.func (.func 53) #[] #[]) ∧ w = w' := by
  go_enter Tryz.func29, Tryz.ntmps29
  go_wp2
  go_ret
  exact ⟨rfl, rfl⟩
theorem op_4 (w : World) : Calls Tryz.prog 29 #[.int .i64 4] w fun e w' => e = .returned (.func (.func 51) #[] #[]) ∧ w = w' := by
  go_enter Tryz.func29, Tryz.ntmps29
  go_wp2
  go_ret
  exact ⟨rfl, rfl⟩
theorem op_5 (w : World) : Calls Tryz.prog 29 #[.int .i64 5] w fun e w' => e = .returned (.func (.func 54) #[] #[]) ∧ w = w' := by
  go_enter Tryz.func29, Tryz.ntmps29
  go_wp2
  go_ret
  exact ⟨rfl, rfl⟩
theorem op_6 (w : World) : Calls Tryz.prog 29 #[.int .i64 6] w fun e w' => e = .returned (.func (.func 51) #[] #[]) ∧ w = w' := by
  go_enter Tryz.func29, Tryz.ntmps29
  go_wp2
  go_ret
  exact ⟨rfl, rfl⟩
theorem op_7 (w : World) : Calls Tryz.prog 29 #[.int .i64 7] w fun e w' => e = .returned (.func (.func 52) #[] #[]) ∧ w = w' := by
  go_enter Tryz.func29, Tryz.ntmps29
  go_wp2
  go_ret
  exact ⟨rfl, rfl⟩
theorem op_8 (w : World) : Calls Tryz.prog 29 #[.int .i64 8] w fun e w' => e = .returned (.func (.func 55) #[] #[]) ∧ w = w' := by
  go_enter Tryz.func29, Tryz.ntmps29
  go_wp2
  go_ret
  exact ⟨rfl, rfl⟩
theorem op_9 (w : World) : Calls Tryz.prog 29 #[.int .i64 9] w fun e w' => e = .returned (.func (.func 56) #[] #[]) ∧ w = w' := by
  go_enter Tryz.func29, Tryz.ntmps29
  go_wp2
  go_ret
  exact ⟨rfl, rfl⟩
theorem op_10 (w : World) : Calls Tryz.prog 29 #[.int .i64 10] w fun e w' => e = .returned (.func (.func 57) #[] #[]) ∧ w = w' := by
  go_enter Tryz.func29, Tryz.ntmps29
  go_wp2
  go_ret
  exact ⟨rfl, rfl⟩
theorem op_x (k : Int) (h : k < 0 ∨ 10 < k) (w : World) : Calls Tryz.prog 29 #[.int .i64 k] w fun e w' => e = .returned .nilFunc ∧ w = w' := by
  go_enter Tryz.func29, Tryz.ntmps29
  go_wp2
  go_ret
  exact ⟨rfl, rfl⟩
set_option maxRecDepth 100000 in
theorem mayo_x (k a b c y p q : Int) (s t : ByteArray) (h : k < 0 ∨ 10 < k) (w : World) : Calls Tryz.prog 13 #[.agg #[.int .i64 k, .int .i64 a, .int .i64 b, .int .i64 c, .int .i64 y, .int .i64 p, .int .i64 q, .string s, .string t]] w fun e w' => e = .returned (.bool (mayOB k a b c y p q s t)) ∧ Below w.heap.size w w' := by
  have k1 := eql_nilO
  have hm := mayOB_x h a b c y p q s t
  rw [hm]
  clear hm
  go_enter Tryz.func13, Tryz.ntmps13
  go_wp2_with (go_at_call 29; refine (op_x _ h _).mono ?_; rintro e w' ⟨rfl, rfl⟩)
  go_ret
  exact ⟨rfl, (Below.refl _ _).alloc (Nat.le_refl _) _⟩
set_option maxRecDepth 100000 in
theorem mayo_0 (a b c y p q : Int) (s t : ByteArray) (w : World) : Calls Tryz.prog 13 #[.agg #[.int .i64 0, .int .i64 a, .int .i64 b, .int .i64 c, .int .i64 y, .int .i64 p, .int .i64 q, .string s, .string t]] w fun e w' => e = .returned (.bool (mayOB 0 a b c y p q s t)) ∧ Below w.heap.size w w' := by
  have k1 := eql_funcO
  rw [mayOB_0]
  go_enter Tryz.func13, Tryz.ntmps13
  go_wp2_with (first | (go_at_call 29; refine (op_0 _).mono ?_; rintro e w' ⟨rfl, rfl⟩) | (go_at_call 51; refine (none_any _ _ _ _ _ _ _ _ _ _).mono ?_; rintro e w1 ⟨rfl, hb⟩; have h1 := Blk.below hb (Blk.new w _ _) (by simp); have c1 := h1.rd; have f1 := h1.nf; have hz := h1.lt))
  all_goals
    go_ret
    refine ⟨ret_bool ?_, ?_⟩
    · clear k1 h1 c1 f1 hz hb
      grind [emp, callZ]
    · exact (((Below.refl _ _).alloc (Nat.le_refl _) _).trans (hb.mono (by simp))).alloc (Nat.le_of_lt hz) _
set_option maxRecDepth 100000 in
theorem mayo_1 (a b c y p q : Int) (s t : ByteArray) (w : World) : Calls Tryz.prog 13 #[.agg #[.int .i64 1, .int .i64 a, .int .i64 b, .int .i64 c, .int .i64 y, .int .i64 p, .int .i64 q, .string s, .string t]] w fun e w' => e = .returned (.bool (mayOB 1 a b c y p q s t)) ∧ Below w.heap.size w w' := by
  have k1 := eql_funcO
  rw [mayOB_1]
  go_enter Tryz.func13, Tryz.ntmps13
  go_wp2_with (first | (go_at_call 29; refine (op_1 _).mono ?_; rintro e w' ⟨rfl, rfl⟩) | (go_at_call 52; refine (ticks_any _ _ _ _ _ _ _ _ _ _).mono ?_; rintro e w1 ⟨rfl, hb⟩; have h1 := Blk.below hb (Blk.new w _ _) (by simp); have c1 := h1.rd; have f1 := h1.nf; have hz := h1.lt))
  all_goals
    go_ret
    refine ⟨ret_bool ?_, ?_⟩
    · clear k1 h1 c1 f1 hz hb
      grind [emp, callZ]
    · exact (((Below.refl _ _).alloc (Nat.le_refl _) _).trans (hb.mono (by simp))).alloc (Nat.le_of_lt hz) _
set_option maxRecDepth 100000 in
theorem mayo_2 (a b c y p q : Int) (s t : ByteArray) (w : World) : Calls Tryz.prog 13 #[.agg #[.int .i64 2, .int .i64 a, .int .i64 b, .int .i64 c, .int .i64 y, .int .i64 p, .int .i64 q, .string s, .string t]] w fun e w' => e = .returned (.bool (mayOB 2 a b c y p q s t)) ∧ Below w.heap.size w w' := by
  have k1 := eql_funcO
  rw [mayOB_2]
  go_enter Tryz.func13, Tryz.ntmps13
  go_wp2_with (first | (go_at_call 29; refine (op_2 _).mono ?_; rintro e w' ⟨rfl, rfl⟩) | (go_at_call 53; refine (mutex_any _ _ _ _ _ _ _ _ _ _).mono ?_; rintro e w1 ⟨rfl, hb⟩; have h1 := Blk.below hb (Blk.new w _ _) (by simp); have c1 := h1.rd; have f1 := h1.nf; have hz := h1.lt))
  all_goals
    go_ret
    refine ⟨ret_bool ?_, ?_⟩
    · clear k1 h1 c1 f1 hz hb
      grind [emp, callZ]
    · exact (((Below.refl _ _).alloc (Nat.le_refl _) _).trans (hb.mono (by simp))).alloc (Nat.le_of_lt hz) _
set_option maxRecDepth 100000 in
theorem mayo_3 (a b c y p q : Int) (s t : ByteArray) (w : World) : Calls Tryz.prog 13 #[.agg #[.int .i64 3, .int .i64 a, .int .i64 b, .int .i64 c, .int .i64 y, .int .i64 p, .int .i64 q, .string s, .string t]] w fun e w' => e = .returned (.bool (mayOB 3 a b c y p q s t)) ∧ Below w.heap.size w w' := by
  have k1 := eql_funcO
  rw [mayOB_3]
  go_enter Tryz.func13, Tryz.ntmps13
  go_wp2_with (first | (go_at_call 29; refine (op_3 _).mono ?_; rintro e w' ⟨rfl, rfl⟩) | (go_at_call 53; refine (mutex_any _ _ _ _ _ _ _ _ _ _).mono ?_; rintro e w1 ⟨rfl, hb⟩; have h1 := Blk.below hb (Blk.new w _ _) (by simp); have c1 := h1.rd; have f1 := h1.nf; have hz := h1.lt))
  all_goals
    go_ret
    refine ⟨ret_bool ?_, ?_⟩
    · clear k1 h1 c1 f1 hz hb
      grind [emp, callZ]
    · exact (((Below.refl _ _).alloc (Nat.le_refl _) _).trans (hb.mono (by simp))).alloc (Nat.le_of_lt hz) _
set_option maxRecDepth 100000 in
theorem mayo_4 (a b c y p q : Int) (s t : ByteArray) (w : World) : Calls Tryz.prog 13 #[.agg #[.int .i64 4, .int .i64 a, .int .i64 b, .int .i64 c, .int .i64 y, .int .i64 p, .int .i64 q, .string s, .string t]] w fun e w' => e = .returned (.bool (mayOB 4 a b c y p q s t)) ∧ Below w.heap.size w w' := by
  have k1 := eql_funcO
  rw [mayOB_4]
  go_enter Tryz.func13, Tryz.ntmps13
  go_wp2_with (first | (go_at_call 29; refine (op_4 _).mono ?_; rintro e w' ⟨rfl, rfl⟩) | (go_at_call 51; refine (none_any _ _ _ _ _ _ _ _ _ _).mono ?_; rintro e w1 ⟨rfl, hb⟩; have h1 := Blk.below hb (Blk.new w _ _) (by simp); have c1 := h1.rd; have f1 := h1.nf; have hz := h1.lt))
  all_goals
    go_ret
    refine ⟨ret_bool ?_, ?_⟩
    · clear k1 h1 c1 f1 hz hb
      grind [emp, callZ]
    · exact (((Below.refl _ _).alloc (Nat.le_refl _) _).trans (hb.mono (by simp))).alloc (Nat.le_of_lt hz) _
set_option maxRecDepth 100000 in
theorem mayo_5 (a b c y p q : Int) (s t : ByteArray) (w : World) : Calls Tryz.prog 13 #[.agg #[.int .i64 5, .int .i64 a, .int .i64 b, .int .i64 c, .int .i64 y, .int .i64 p, .int .i64 q, .string s, .string t]] w fun e w' => e = .returned (.bool (mayOB 5 a b c y p q s t)) ∧ Below w.heap.size w w' := by
  have k1 := eql_funcO
  rw [mayOB_5]
  go_enter Tryz.func13, Tryz.ntmps13
  go_wp2_with (first | (go_at_call 29; refine (op_5 _).mono ?_; rintro e w' ⟨rfl, rfl⟩) | (go_at_call 54; refine (jump_any _ _ _ _ _ _ _ _ _ _).mono ?_; rintro e w1 ⟨rfl, hb⟩; have h1 := Blk.below hb (Blk.new w _ _) (by simp); have c1 := h1.rd; have f1 := h1.nf; have hz := h1.lt))
  all_goals
    go_ret
    refine ⟨ret_bool ?_, ?_⟩
    · clear k1 h1 c1 f1 hz hb
      grind [emp, callZ]
    · exact (((Below.refl _ _).alloc (Nat.le_refl _) _).trans (hb.mono (by simp))).alloc (Nat.le_of_lt hz) _
set_option maxRecDepth 100000 in
theorem mayo_6 (a b c y p q : Int) (s t : ByteArray) (w : World) : Calls Tryz.prog 13 #[.agg #[.int .i64 6, .int .i64 a, .int .i64 b, .int .i64 c, .int .i64 y, .int .i64 p, .int .i64 q, .string s, .string t]] w fun e w' => e = .returned (.bool (mayOB 6 a b c y p q s t)) ∧ Below w.heap.size w w' := by
  have k1 := eql_funcO
  rw [mayOB_6]
  go_enter Tryz.func13, Tryz.ntmps13
  go_wp2_with (first | (go_at_call 29; refine (op_6 _).mono ?_; rintro e w' ⟨rfl, rfl⟩) | (go_at_call 51; refine (none_any _ _ _ _ _ _ _ _ _ _).mono ?_; rintro e w1 ⟨rfl, hb⟩; have h1 := Blk.below hb (Blk.new w _ _) (by simp); have c1 := h1.rd; have f1 := h1.nf; have hz := h1.lt))
  all_goals
    go_ret
    refine ⟨ret_bool ?_, ?_⟩
    · clear k1 h1 c1 f1 hz hb
      grind [emp, callZ]
    · exact (((Below.refl _ _).alloc (Nat.le_refl _) _).trans (hb.mono (by simp))).alloc (Nat.le_of_lt hz) _
set_option maxRecDepth 100000 in
theorem mayo_7 (a b c y p q : Int) (s t : ByteArray) (w : World) : Calls Tryz.prog 13 #[.agg #[.int .i64 7, .int .i64 a, .int .i64 b, .int .i64 c, .int .i64 y, .int .i64 p, .int .i64 q, .string s, .string t]] w fun e w' => e = .returned (.bool (mayOB 7 a b c y p q s t)) ∧ Below w.heap.size w w' := by
  have k1 := eql_funcO
  rw [mayOB_7]
  go_enter Tryz.func13, Tryz.ntmps13
  go_wp2_with (first | (go_at_call 29; refine (op_7 _).mono ?_; rintro e w' ⟨rfl, rfl⟩) | (go_at_call 52; refine (ticks_any _ _ _ _ _ _ _ _ _ _).mono ?_; rintro e w1 ⟨rfl, hb⟩; have h1 := Blk.below hb (Blk.new w _ _) (by simp); have c1 := h1.rd; have f1 := h1.nf; have hz := h1.lt))
  all_goals
    go_ret
    refine ⟨ret_bool ?_, ?_⟩
    · clear k1 h1 c1 f1 hz hb
      grind [emp, callZ]
    · exact (((Below.refl _ _).alloc (Nat.le_refl _) _).trans (hb.mono (by simp))).alloc (Nat.le_of_lt hz) _
set_option maxRecDepth 100000 in
theorem mayo_8 (a b c y p q : Int) (s t : ByteArray) (w : World) : Calls Tryz.prog 13 #[.agg #[.int .i64 8, .int .i64 a, .int .i64 b, .int .i64 c, .int .i64 y, .int .i64 p, .int .i64 q, .string s, .string t]] w fun e w' => e = .returned (.bool (mayOB 8 a b c y p q s t)) ∧ Below w.heap.size w w' := by
  have k1 := eql_funcO
  rw [mayOB_8]
  go_enter Tryz.func13, Tryz.ntmps13
  go_wp2_with (first | (go_at_call 29; refine (op_8 _).mono ?_; rintro e w' ⟨rfl, rfl⟩) | (go_at_call 55; refine (wait_any _ _ _ _ _ _ _ _ _ _).mono ?_; rintro e w1 ⟨rfl, hb⟩; have h1 := Blk.below hb (Blk.new w _ _) (by simp); have c1 := h1.rd; have f1 := h1.nf; have hz := h1.lt))
  all_goals
    go_ret
    refine ⟨ret_bool ?_, ?_⟩
    · clear k1 h1 c1 f1 hz hb
      grind [emp, callZ]
    · exact (((Below.refl _ _).alloc (Nat.le_refl _) _).trans (hb.mono (by simp))).alloc (Nat.le_of_lt hz) _
set_option maxRecDepth 100000 in
theorem mayo_9 (a b c y p q : Int) (s t : ByteArray) (w : World) : Calls Tryz.prog 13 #[.agg #[.int .i64 9, .int .i64 a, .int .i64 b, .int .i64 c, .int .i64 y, .int .i64 p, .int .i64 q, .string s, .string t]] w fun e w' => e = .returned (.bool (mayOB 9 a b c y p q s t)) ∧ Below w.heap.size w w' := by
  have k1 := eql_funcO
  rw [mayOB_9]
  go_enter Tryz.func13, Tryz.ntmps13
  go_wp2_with (first | (go_at_call 29; refine (op_9 _).mono ?_; rintro e w' ⟨rfl, rfl⟩) | (go_at_call 56; refine (cond_any _ _ _ _ _ _ _ _ _ _).mono ?_; rintro e w1 ⟨rfl, hb⟩; have h1 := Blk.below hb (Blk.new w _ _) (by simp); have c1 := h1.rd; have f1 := h1.nf; have hz := h1.lt))
  all_goals
    go_ret
    refine ⟨ret_bool ?_, ?_⟩
    · clear k1 h1 c1 f1 hz hb
      grind [emp, callZ]
    · exact (((Below.refl _ _).alloc (Nat.le_refl _) _).trans (hb.mono (by simp))).alloc (Nat.le_of_lt hz) _
set_option maxRecDepth 100000 in
theorem mayo_10 (a b c y p q : Int) (s t : ByteArray) (w : World) : Calls Tryz.prog 13 #[.agg #[.int .i64 10, .int .i64 a, .int .i64 b, .int .i64 c, .int .i64 y, .int .i64 p, .int .i64 q, .string s, .string t]] w fun e w' => e = .returned (.bool (mayOB 10 a b c y p q s t)) ∧ Below w.heap.size w w' := by
  have k1 := eql_funcO
  rw [mayOB_10]
  go_enter Tryz.func13, Tryz.ntmps13
  go_wp2_with (first | (go_at_call 29; refine (op_10 _).mono ?_; rintro e w' ⟨rfl, rfl⟩) | (go_at_call 57; refine (asks_any _ _ _ _ _ _ _ _ _ _).mono ?_; rintro e w1 ⟨rfl, hb⟩; have h1 := Blk.below hb (Blk.new w _ _) (by simp); have c1 := h1.rd; have f1 := h1.nf; have hz := h1.lt))
  all_goals
    go_ret
    refine ⟨ret_bool ?_, ?_⟩
    · clear k1 h1 c1 f1 hz hb
      grind [emp, callZ]
    · exact (((Below.refl _ _).alloc (Nat.le_refl _) _).trans (hb.mono (by simp))).alloc (Nat.le_of_lt hz) _
theorem mayo_any (k a b c y p q : Int) (s t : ByteArray) (w : World) : Calls Tryz.prog 13 #[.agg #[.int .i64 k, .int .i64 a, .int .i64 b, .int .i64 c, .int .i64 y, .int .i64 p, .int .i64 q, .string s, .string t]] w fun e w' => e = .returned (.bool (mayOB k a b c y p q s t)) ∧ Below w.heap.size w w' := by
  by_cases hx : k < 0 ∨ 10 < k
  · exact mayo_x k a b c y p q s t hx w
  · have hc : k = 0 ∨ k = 1 ∨ k = 2 ∨ k = 3 ∨ k = 4 ∨ k = 5 ∨ k = 6 ∨ k = 7 ∨ k = 8 ∨ k = 9 ∨ k = 10 := by omega
    rcases hc with rfl | rfl | rfl | rfl | rfl | rfl | rfl | rfl | rfl | rfl | rfl
    · exact mayo_0 a b c y p q s t w
    · exact mayo_1 a b c y p q s t w
    · exact mayo_2 a b c y p q s t w
    · exact mayo_3 a b c y p q s t w
    · exact mayo_4 a b c y p q s t w
    · exact mayo_5 a b c y p q s t w
    · exact mayo_6 a b c y p q s t w
    · exact mayo_7 a b c y p q s t w
    · exact mayo_8 a b c y p q s t w
    · exact mayo_9 a b c y p q s t w
    · exact mayo_10 a b c y p q s t w
end Go.Proofs.YtefaaginedideaaGreatDoor
