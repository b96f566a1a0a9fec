/-
  What a call costs, in plain terms, and a few facts on it.
-/
import Derived.Test.YtifhcnkadieboaaMay
import Derived.Lib.Bytealg
import Derived.Lib.Strings
namespace Go.Proofs.Ytifhcnkadieboaa
set_option linter.unusedSimpArgs false
set_option linter.unusedVariables false

/-- how often '/' stands in a text -/
def cnt (s : ByteArray) : Int := (Lib.countByte s.data.toList 47 : Nat)
theorem cnt_le (s : ByteArray) : 0 ≤ cnt s ∧ cnt s ≤ s.size := by
  unfold cnt Lib.countByte
  have h := List.count_le_length (a := (47 : UInt8)) (l := s.data.toList)
  have e := Lib.size_eq s
  omega

def movesZ (sys b : Int) (s : ByteArray) : Int := if sys = 3 then b else if sys = 4 then (s.size : Int) else 0
def movesP (sys a b : Int) (s t : ByteArray) : Int := if mayB sys a b s t = true then movesZ sys b s else 0
def partsF (sys a b : Int) (s t : ByteArray) : Int := if mayB sys a b s t = true then (if movesZ sys b s ≤ 64 then 1 else (movesZ sys b s + 63) / 64) else 0
def bytesF (sys a b : Int) (s t : ByteArray) (p : Int) : Int := if p < 0 ∨ partsF sys a b s t ≤ p then 0 else min (movesZ sys b s - 64 * p) 64
def ticksF (sys a b : Int) (s t : ByteArray) (p : Int) : Int :=
  if p < 0 ∨ partsF sys a b s t ≤ p then 0
  else if sys = 3 ∨ sys = 4 then 2 + (bytesF sys a b s t p + 15) / 16
  else if sys = 1 ∨ sys = 8 ∨ sys = 9 ∨ sys = 10 ∨ sys = 12 ∨ sys = 13 then 2 + min (cnt s) 6
  else if sys = 7 then 2 + min (cnt s + cnt t) 6
  else if sys = 14 then 4
  else 2
def boundF (sys a b : Int) (s t : ByteArray) : Nat → Int
  | 0 => 0
  | k + 1 => boundF sys a b s t k + ticksF sys a b s t k

theorem may_sys {sys a b : Int} {s t : ByteArray} (h : mayB sys a b s t = true) : 1 ≤ sys ∧ sys ≤ 17 := by
  by_cases hx : sys < 1 ∨ 17 < sys
  · rw [mayB_x hx] at h; cases h
  · omega
theorem may_moves {sys a b : Int} {s t : ByteArray} (h : mayB sys a b s t = true) : 0 ≤ movesZ sys b s ∧ movesZ sys b s ≤ 512 := by
  unfold movesZ
  split
  · subst_vars; rw [mayB_3] at h; simp [withinB] at h; omega
  · split
    · subst_vars; rw [mayB_4] at h; simp at h; omega
    · omega
theorem path_le {s : ByteArray} (h : pathB s = true) : s.size ≤ 100 := by simpa [pathB] using h
theorem may_one {sys a b : Int} {s t : ByteArray} (h : mayB sys a b s t = true) (hs : sys = 1 ∨ sys = 8 ∨ sys = 9 ∨ sys = 10 ∨ sys = 12 ∨ sys = 13) : s.size ≤ 100 := by
  rcases hs with rfl | rfl | rfl | rfl | rfl | rfl
  · rw [mayB_1] at h; simp at h; exact path_le h.1.1.1
  · rw [mayB_8] at h; simp at h; exact path_le h.1.1.1
  · rw [mayB_9] at h; simp at h; exact path_le h.1.1.1
  · rw [mayB_10] at h; simp at h; exact path_le h.1.1.1
  · rw [mayB_12] at h; simp at h; exact path_le h.1.1.1
  · rw [mayB_13] at h; simp at h; exact path_le h.1.1.1
theorem may_two {a b : Int} {s t : ByteArray} (h : mayB 7 a b s t = true) : s.size ≤ 100 ∧ t.size ≤ 100 := by
  rw [mayB_7] at h; simp at h; exact ⟨path_le h.1.1.1, path_le h.1.1.2⟩
theorem parts_le (sys a b : Int) (s t : ByteArray) : 0 ≤ partsF sys a b s t ∧ partsF sys a b s t ≤ 8 := by
  unfold partsF
  split
  · rename_i h
    have := may_moves h
    split <;> omega
  · omega
theorem parts_may {sys a b : Int} {s t : ByteArray} {p : Int} (h : ¬ (p < 0 ∨ partsF sys a b s t ≤ p)) : mayB sys a b s t = true := by
  by_cases hm : mayB sys a b s t = true
  · exact hm
  · have : partsF sys a b s t = 0 := by unfold partsF; rw [if_neg hm]
    omega
theorem bytes_le (sys a b : Int) (s t : ByteArray) (p : Int) : 0 ≤ bytesF sys a b s t p ∧ bytesF sys a b s t p ≤ 64 := by
  unfold bytesF
  split
  · omega
  · rename_i h
    have hm := parts_may h
    have h2 := may_moves hm
    unfold partsF at h
    rw [if_pos hm] at h
    split at h <;> omega
theorem ticks_le (sys a b : Int) (s t : ByteArray) (p : Int) : 0 ≤ ticksF sys a b s t p ∧ ticksF sys a b s t p ≤ 8 := by
  have hb := bytes_le sys a b s t p
  have h1 := cnt_le s
  have h2 := cnt_le t
  unfold ticksF
  repeat' split
  all_goals omega
theorem bound_le (sys a b : Int) (s t : ByteArray) (n : Nat) : 0 ≤ boundF sys a b s t n ∧ boundF sys a b s t n ≤ 8 * n := by
  induction n with
  | zero => simp [boundF]
  | succ n ih =>
    have := ticks_le sys a b s t n
    unfold boundF
    omega
end Go.Proofs.Ytifhcnkadieboaa
