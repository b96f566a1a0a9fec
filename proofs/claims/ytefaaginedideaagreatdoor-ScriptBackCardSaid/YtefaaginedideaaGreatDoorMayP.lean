/-
  What a call and a step may be, in plain terms.
-/
import Derived.Test.YtefaaginedideaaGreatDoorTx
namespace Go.Proofs.YtefaaginedideaaGreatDoor
set_option linter.unusedSimpArgs false
set_option linter.unusedVariables false
open Go.RowKit

def withinB (x l m : Int) : Bool := decide (l ≤ x) && decide (x ≤ m)
def pathB (s : ByteArray) : Bool := decide (s.size ≤ 100)
def emp (s : ByteArray) : Bool := s.toList.isEmpty
theorem emp_t {s : ByteArray} (h : s.toList = []) : emp s = true := by unfold emp; rw [h]; rfl
theorem emp_size {s : ByteArray} (h : s.toList = []) : s.size = 0 := by
  rw [ByteArray.toList_eq] at h
  show s.data.size = 0
  rw [← Array.length_toList, h]; rfl
theorem path_emp {s : ByteArray} (h : s.toList = []) : pathB s = true := by simp [pathB, emp_size h]
def mayB (sys a b : Int) (s t : ByteArray) : Bool :=
  if sys = 1 then pathB s && withinB a 0 7 && decide (0 = b) && emp t
  else if sys = 2 then withinB a 0 7 && decide (0 = b) && emp s && emp t
  else if sys = 3 then withinB a 0 7 && withinB b 0 512 && emp s && emp t
  else if sys = 4 then withinB a 0 7 && decide ((s.size : Int) ≤ 512) && decide (0 = b) && emp t
  else if sys = 5 then withinB a 0 7 && withinB b 0 512 && emp s && emp t
  else if sys = 6 then withinB a 0 7 && decide (0 = b) && emp s && emp t
  else if sys = 7 then pathB s && pathB t && decide (0 = a) && decide (0 = b)
  else if sys = 8 then pathB s && decide (0 = a) && decide (0 = b) && emp t
  else if sys = 9 then pathB s && decide (0 = a) && decide (0 = b) && emp t
  else if sys = 10 then pathB s && decide (0 = a) && decide (0 = b) && emp t
  else if sys = 11 then decide (0 = a) && decide (0 = b) && emp s && emp t
  else if sys = 12 then pathB s && decide (0 = a) && decide (0 = b) && emp t
  else if sys = 13 then pathB s && decide (0 = a) && decide (0 = b) && emp t
  else if sys = 14 then withinB a 0 39 && decide (0 = b) && emp s && emp t
  else if sys = 15 then withinB a 0 255 && decide (0 = b) && emp s && emp t
  else if sys = 16 then decide (0 = a) && decide (0 = b) && emp s && emp t
  else if sys = 17 then decide (0 = a) && decide (0 = b) && emp s && emp t
  else false
theorem mayB_1 (a b : Int) (s t : ByteArray) : mayB 1 a b s t = (pathB s && withinB a 0 7 && decide (0 = b) && emp t) := rfl
theorem mayB_2 (a b : Int) (s t : ByteArray) : mayB 2 a b s t = (withinB a 0 7 && decide (0 = b) && emp s && emp t) := rfl
theorem mayB_3 (a b : Int) (s t : ByteArray) : mayB 3 a b s t = (withinB a 0 7 && withinB b 0 512 && emp s && emp t) := rfl
theorem mayB_4 (a b : Int) (s t : ByteArray) : mayB 4 a b s t = (withinB a 0 7 && decide ((s.size : Int) ≤ 512) && decide (0 = b) && emp t) := rfl
theorem mayB_5 (a b : Int) (s t : ByteArray) : mayB 5 a b s t = (withinB a 0 7 && withinB b 0 512 && emp s && emp t) := rfl
theorem mayB_6 (a b : Int) (s t : ByteArray) : mayB 6 a b s t = (withinB a 0 7 && decide (0 = b) && emp s && emp t) := rfl
theorem mayB_7 (a b : Int) (s t : ByteArray) : mayB 7 a b s t = (pathB s && pathB t && decide (0 = a) && decide (0 = b)) := rfl
theorem mayB_8 (a b : Int) (s t : ByteArray) : mayB 8 a b s t = (pathB s && decide (0 = a) && decide (0 = b) && emp t) := rfl
theorem mayB_9 (a b : Int) (s t : ByteArray) : mayB 9 a b s t = (pathB s && decide (0 = a) && decide (0 = b) && emp t) := rfl
theorem mayB_10 (a b : Int) (s t : ByteArray) : mayB 10 a b s t = (pathB s && decide (0 = a) && decide (0 = b) && emp t) := rfl
theorem mayB_11 (a b : Int) (s t : ByteArray) : mayB 11 a b s t = (decide (0 = a) && decide (0 = b) && emp s && emp t) := rfl
theorem mayB_12 (a b : Int) (s t : ByteArray) : mayB 12 a b s t = (pathB s && decide (0 = a) && decide (0 = b) && emp t) := rfl
theorem mayB_13 (a b : Int) (s t : ByteArray) : mayB 13 a b s t = (pathB s && decide (0 = a) && decide (0 = b) && emp t) := rfl
theorem mayB_14 (a b : Int) (s t : ByteArray) : mayB 14 a b s t = (withinB a 0 39 && decide (0 = b) && emp s && emp t) := rfl
theorem mayB_15 (a b : Int) (s t : ByteArray) : mayB 15 a b s t = (withinB a 0 255 && decide (0 = b) && emp s && emp t) := rfl
theorem mayB_16 (a b : Int) (s t : ByteArray) : mayB 16 a b s t = (decide (0 = a) && decide (0 = b) && emp s && emp t) := rfl
theorem mayB_17 (a b : Int) (s t : ByteArray) : mayB 17 a b s t = (decide (0 = a) && decide (0 = b) && emp s && emp t) := rfl
theorem mayB_x {sys : Int} (h : sys < 1 ∨ 17 < sys) (a b : Int) (s t : ByteArray) : mayB sys a b s t = false := by
  unfold mayB
  repeat (rw [if_neg (by omega)])
theorem emp_B (s : Txt) : emp (B s) = decide (s = []) := by unfold emp; rw [B_list]; cases s <;> rfl

/-- a step -/
structure OpV where
  k : Int
  a : Int
  b : Int
  c : Int
  y : Int
  p : Int
  q : Int
  s : Txt
  t : Txt
theorem OpV.ext' {o u : OpV} (h0 : o.k = u.k) (h1 : o.a = u.a) (h2 : o.b = u.b) (h3 : o.c = u.c) (h4 : o.y = u.y) (h5 : o.p = u.p) (h6 : o.q = u.q) (h7 : o.s = u.s) (h8 : o.t = u.t) : o = u := by
  cases o; cases u; simp_all
def callZ (y p q : Int) (s t : ByteArray) : Bool := decide (0 = y) && decide (0 = p) && decide (0 = q) && emp s && emp t
def mayOB (k a b c y p q : Int) (s t : ByteArray) : Bool :=
  if k = 0 ∨ k = 4 ∨ k = 6 then decide (0 = a) && decide (0 = b) && decide (0 = c) && callZ y p q s t
  else if k = 1 ∨ k = 7 then withinB a 1 1000 && decide (0 = b) && decide (0 = c) && callZ y p q s t
  else if k = 2 ∨ k = 3 then withinB a 0 5 && decide (0 = b) && decide (0 = c) && callZ y p q s t
  else if k = 5 then withinB a 0 39 && decide (0 = b) && decide (0 = c) && callZ y p q s t
  else if k = 8 then withinB a 0 3 && withinB b 0 5 && withinB c 0 1000 && callZ y p q s t
  else if k = 9 then withinB a 0 3 && decide (0 = b) && decide (0 = c) && callZ y p q s t
  else if k = 10 then decide (0 = a) && decide (0 = b) && decide (0 = c) && mayB y p q s t
  else false
def mayO (o : OpV) : Bool := mayOB o.k o.a o.b o.c o.y o.p o.q (B o.s) (B o.t)
theorem mayOB_0 (a b c y p q : Int) (s t : ByteArray) : mayOB 0 a b c y p q s t = (decide (0 = a) && decide (0 = b) && decide (0 = c) && callZ y p q s t) := rfl
theorem mayOB_1 (a b c y p q : Int) (s t : ByteArray) : mayOB 1 a b c y p q s t = (withinB a 1 1000 && decide (0 = b) && decide (0 = c) && callZ y p q s t) := rfl
theorem mayOB_2 (a b c y p q : Int) (s t : ByteArray) : mayOB 2 a b c y p q s t = (withinB a 0 5 && decide (0 = b) && decide (0 = c) && callZ y p q s t) := rfl
theorem mayOB_3 (a b c y p q : Int) (s t : ByteArray) : mayOB 3 a b c y p q s t = (withinB a 0 5 && decide (0 = b) && decide (0 = c) && callZ y p q s t) := rfl
theorem mayOB_4 (a b c y p q : Int) (s t : ByteArray) : mayOB 4 a b c y p q s t = (decide (0 = a) && decide (0 = b) && decide (0 = c) && callZ y p q s t) := rfl
theorem mayOB_5 (a b c y p q : Int) (s t : ByteArray) : mayOB 5 a b c y p q s t = (withinB a 0 39 && decide (0 = b) && decide (0 = c) && callZ y p q s t) := rfl
theorem mayOB_6 (a b c y p q : Int) (s t : ByteArray) : mayOB 6 a b c y p q s t = (decide (0 = a) && decide (0 = b) && decide (0 = c) && callZ y p q s t) := rfl
theorem mayOB_7 (a b c y p q : Int) (s t : ByteArray) : mayOB 7 a b c y p q s t = (withinB a 1 1000 && decide (0 = b) && decide (0 = c) && callZ y p q s t) := rfl
theorem mayOB_8 (a b c y p q : Int) (s t : ByteArray) : mayOB 8 a b c y p q s t = (withinB a 0 3 && withinB b 0 5 && withinB c 0 1000 && callZ y p q s t) := rfl
theorem mayOB_9 (a b c y p q : Int) (s t : ByteArray) : mayOB 9 a b c y p q s t = (withinB a 0 3 && decide (0 = b) && decide (0 = c) && callZ y p q s t) := rfl
theorem mayOB_10 (a b c y p q : Int) (s t : ByteArray) : mayOB 10 a b c y p q s t = (decide (0 = a) && decide (0 = b) && decide (0 = c) && mayB y p q s t) := rfl
theorem mayOB_x {k : Int} (h : k < 0 ∨ 10 < k) (a b c y p q : Int) (s t : ByteArray) : mayOB k a b c y p q s t = false := by
  unfold mayOB
  repeat (rw [if_neg (by omega)])
theorem mayB_sys {sys a b : Int} {s t : ByteArray} (h : mayB sys a b s t = true) : 1 ≤ sys ∧ sys ≤ 17 := by
  by_cases hx : sys < 1 ∨ 17 < sys
  · rw [mayB_x hx] at h; cases h
  · omega
theorem emp_le {s : ByteArray} (h : emp s = true) : s.size = 0 := by
  unfold emp at h
  exact emp_size (by simpa using h)
theorem emp_dec (s : ByteArray) : emp s = decide (s.size = 0) := by
  have e : s = B s.data.toList := (B_data s).symm
  rw [e, emp_B, B_size]
  congr 1
  rw [eq_iff_iff]
  constructor
  · intro h; rw [h]; rfl
  · intro h; exact List.eq_nil_of_length_eq_zero h
/-- the numbers and texts of a call that may be are small -/
theorem mayB_le {y p q : Int} {s t : ByteArray} (h : mayB y p q s t = true) : 0 ≤ p ∧ p ≤ 255 ∧ 0 ≤ q ∧ q ≤ 512 ∧ s.size ≤ 512 ∧ t.size ≤ 100 := by
  have hs := mayB_sys h
  have hy : y = 1 ∨ y = 2 ∨ y = 3 ∨ y = 4 ∨ y = 5 ∨ y = 6 ∨ y = 7 ∨ y = 8 ∨ y = 9 ∨ y = 10 ∨ y = 11 ∨ y = 12 ∨ y = 13 ∨ y = 14 ∨ y = 15 ∨ y = 16 ∨ y = 17 := by omega
  rcases hy with rfl | rfl | rfl | rfl | rfl | rfl | rfl | rfl | rfl | rfl | rfl | rfl | rfl | rfl | rfl | rfl | rfl
  all_goals
    simp only [mayB_1, mayB_2, mayB_3, mayB_4, mayB_5, mayB_6, mayB_7, mayB_8, mayB_9, mayB_10, mayB_11, mayB_12, mayB_13, mayB_14, mayB_15, mayB_16, mayB_17, emp_dec, withinB, pathB, Bool.and_eq_true, decide_eq_true_eq] at h
    omega
theorem callZ_eq {y p q : Int} {s t : ByteArray} (h : callZ y p q s t = true) : y = 0 ∧ p = 0 ∧ q = 0 ∧ s.size = 0 ∧ t.size = 0 := by
  simp only [callZ, Bool.and_eq_true, emp_dec, decide_eq_true_eq] at h
  omega
theorem mayOB_le {k a b c y p q : Int} {s t : ByteArray} (h : mayOB k a b c y p q s t = true) : 0 ≤ k ∧ k ≤ 10 ∧ 0 ≤ a ∧ a ≤ 1000 ∧ 0 ≤ b ∧ b ≤ 5 ∧ 0 ≤ c ∧ c ≤ 1000 ∧ 0 ≤ y ∧ y ≤ 17 ∧ 0 ≤ p ∧ p ≤ 255 ∧ 0 ≤ q ∧ q ≤ 512 ∧ s.size ≤ 512 ∧ t.size ≤ 100 ∧ (k ≠ 10 → y = 0 ∧ p = 0 ∧ q = 0 ∧ s.size = 0 ∧ t.size = 0) ∧ (k = 10 → a = 0 ∧ b = 0 ∧ c = 0) := by
  by_cases hx : k < 0 ∨ 10 < k
  · rw [mayOB_x hx] at h; cases h
  · have hk : k = 0 ∨ k = 1 ∨ k = 2 ∨ k = 3 ∨ k = 4 ∨ k = 5 ∨ k = 6 ∨ k = 7 ∨ k = 8 ∨ k = 9 ∨ k = 10 := by omega
    rcases hk with rfl | rfl | rfl | rfl | rfl | rfl | rfl | rfl | rfl | rfl | rfl
    all_goals
      simp only [mayOB_0, mayOB_1, mayOB_2, mayOB_3, mayOB_4, mayOB_5, mayOB_6, mayOB_7, mayOB_8, mayOB_9, mayOB_10, withinB, Bool.and_eq_true, decide_eq_true_eq] at h
      first
        | (have h1 := callZ_eq h.2; omega)
        | (have h1 := mayB_le h.2; have h2 := mayB_sys h.2; omega)
/-- a step that may be: its numbers are such as may be written -/
theorem mayO_le {o : OpV} (h : mayO o = true) : 0 ≤ o.k ∧ o.k ≤ 10 ∧ 0 ≤ o.a ∧ o.a ≤ 1000 ∧ 0 ≤ o.b ∧ o.b ≤ 5 ∧ 0 ≤ o.c ∧ o.c ≤ 1000 ∧ 0 ≤ o.y ∧ o.y ≤ 17 ∧ 0 ≤ o.p ∧ o.p ≤ 255 ∧ 0 ≤ o.q ∧ o.q ≤ 512 ∧ o.s.length ≤ 512 ∧ o.t.length ≤ 100 := by
  have := mayOB_le h
  rw [B_size, B_size] at this
  omega
/-- .. and it is told by its kind whether it calls -/
theorem mayO_op {o : OpV} (h : mayO o = true) (hk : o.k ≠ 10) : o.y = 0 ∧ o.p = 0 ∧ o.q = 0 ∧ o.s = [] ∧ o.t = [] := by
  have := mayOB_le h
  rw [B_size, B_size] at this
  exact ⟨by omega, by omega, by omega, List.eq_nil_of_length_eq_zero (by omega), List.eq_nil_of_length_eq_zero (by omega)⟩
theorem mayO_call {o : OpV} (h : mayO o = true) (hk : o.k = 10) : o.a = 0 ∧ o.b = 0 ∧ o.c = 0 := by
  have := mayOB_le h
  omega
end Go.Proofs.YtefaaginedideaaGreatDoor
