/-
  What a call and a step may be, in plain terms.
-/
import Derived.Test.YtjpjafajploiaaaGreatDoorPName
namespace Go.Proofs.YtjpjafajploiaaaGreatDoor
set_option linter.unusedSimpArgs false
set_option linter.unusedVariables false
open Go.RowKit

def withinB (x l m : Int) : Bool := decide (l ≤ x) && decide (x ≤ m)
def pathB (s : ByteArray) : Bool := decide (s.size ≤ 100)
def emp (s : ByteArray) : Bool := s.toList.isEmpty
theorem emp_t {s : ByteArray} (h : s.toList = []) : emp s = true := by unfold emp; rw [h]; rfl
theorem emp_size {s : ByteArray} (h : s.toList = []) : s.size = 0 := by
  rw [ByteArray.toList_eq] at h
  show s.data.size = 0
  rw [← Array.length_toList, h]; rfl
theorem path_emp {s : ByteArray} (h : s.toList = []) : pathB s = true := by simp [pathB, emp_size h]
def mayB (sys a b : Int) (s t : ByteArray) : Bool :=
  if sys = 1 then pathB s && withinB a 0 7 && decide (0 = b) && emp t
  else if sys = 2 then withinB a 0 7 && decide (0 = b) && emp s && emp t
  else if sys = 3 then withinB a 0 7 && withinB b 0 512 && emp s && emp t
  else if sys = 4 then withinB a 0 7 && decide ((s.size : Int) ≤ 512) && decide (0 = b) && emp t
  else if sys = 5 then withinB a 0 7 && withinB b 0 512 && emp s && emp t
  else if sys = 6 then withinB a 0 7 && decide (0 = b) && emp s && emp t
  else if sys = 7 then pathB s && pathB t && decide (0 = a) && decide (0 = b)
  else if sys = 8 then pathB s && decide (0 = a) && decide (0 = b) && emp t
  else if sys = 9 then pathB s && decide (0 = a) && decide (0 = b) && emp t
  else if sys = 10 then pathB s && decide (0 = a) && decide (0 = b) && emp t
  else if sys = 11 then decide (0 = a) && decide (0 = b) && emp s && emp t
  else if sys = 12 then pathB s && decide (0 = a) && decide (0 = b) && emp t
  else if sys = 13 then pathB s && decide (0 = a) && decide (0 = b) && emp t
  else if sys = 14 then withinB a 0 39 && decide (0 = b) && emp s && emp t
  else if sys = 15 then withinB a 0 255 && decide (0 = b) && emp s && emp t
  else if sys = 16 then decide (0 = a) && decide (0 = b) && emp s && emp t
  else if sys = 17 then decide (0 = a) && decide (0 = b) && emp s && emp t
  else false
theorem mayB_1 (a b : Int) (s t : ByteArray) : mayB 1 a b s t = (pathB s && withinB a 0 7 && decide (0 = b) && emp t) := rfl
theorem mayB_2 (a b : Int) (s t : ByteArray) : mayB 2 a b s t = (withinB a 0 7 && decide (0 = b) && emp s && emp t) := rfl
theorem mayB_3 (a b : Int) (s t : ByteArray) : mayB 3 a b s t = (withinB a 0 7 && withinB b 0 512 && emp s && emp t) := rfl
theorem mayB_4 (a b : Int) (s t : ByteArray) : mayB 4 a b s t = (withinB a 0 7 && decide ((s.size : Int) ≤ 512) && decide (0 = b) && emp t) := rfl
theorem mayB_5 (a b : Int) (s t : ByteArray) : mayB 5 a b s t = (withinB a 0 7 && withinB b 0 512 && emp s && emp t) := rfl
theorem mayB_6 (a b : Int) (s t : ByteArray) : mayB 6 a b s t = (withinB a 0 7 && decide (0 = b) && emp s && emp t) := rfl
theorem mayB_7 (a b : Int) (s t : ByteArray) : mayB 7 a b s t = (pathB s && pathB t && decide (0 = a) && decide (0 = b)) := rfl
theorem mayB_8 (a b : Int) (s t : ByteArray) : mayB 8 a b s t = (pathB s && decide (0 = a) && decide (0 = b) && emp t) := rfl
theorem mayB_9 (a b : Int) (s t : ByteArray) : mayB 9 a b s t = (pathB s && decide (0 = a) && decide (0 = b) && emp t) := rfl
theorem mayB_10 (a b : Int) (s t : ByteArray) : mayB 10 a b s t = (pathB s && decide (0 = a) && decide (0 = b) && emp t) := rfl
theorem mayB_11 (a b : Int) (s t : ByteArray) : mayB 11 a b s t = (decide (0 = a) && decide (0 = b) && emp s && emp t) := rfl
theorem mayB_12 (a b : Int) (s t : ByteArray) : mayB 12 a b s t = (pathB s && decide (0 = a) && decide (0 = b) && emp t) := rfl
theorem mayB_13 (a b : Int) (s t : ByteArray) : mayB 13 a b s t = (pathB s && decide (0 = a) && decide (0 = b) && emp t) := rfl
theorem mayB_14 (a b : Int) (s t : ByteArray) : mayB 14 a b s t = (withinB a 0 39 && decide (0 = b) && emp s && emp t) := rfl
theorem mayB_15 (a b : Int) (s t : ByteArray) : mayB 15 a b s t = (withinB a 0 255 && decide (0 = b) && emp s && emp t) := rfl
theorem mayB_16 (a b : Int) (s t : ByteArray) : mayB 16 a b s t = (decide (0 = a) && decide (0 = b) && emp s && emp t) := rfl
theorem mayB_17 (a b : Int) (s t : ByteArray) : mayB 17 a b s t = (decide (0 = a) && decide (0 = b) && emp s && emp t) := rfl
theorem mayB_x {sys : Int} (h : sys < 1 ∨ 17 < sys) (a b : Int) (s t : ByteArray) : mayB sys a b s t = false := by
  unfold mayB
  repeat (rw [if_neg (by omega)])
end Go.Proofs.YtjpjafajploiaaaGreatDoor
