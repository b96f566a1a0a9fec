/-
  Scripts, plain: what is printed is read again; what was read may be printed; a text is refused at its first line that is wrong.
-/
import Derived.Test.YtefaaginedideaaGreatDoorSPl
namespace Go.Proofs.YtefaaginedideaaGreatDoor
set_option linter.unusedSimpArgs false
set_option linter.unusedVariables false
open Go.RowKit
open Go.Lib hiding intOf

theorem spc_cat (d : UInt8) : ∀ (s t : Txt), spc d (s ++ d :: t) = spc d s ++ spc d t
  | [], t => by simp [spc]
  | c :: r, t => by
    have ih := spc_cat d r t
    rw [List.cons_append]
    by_cases h : c = d
    · rw [spc, if_pos h, ih]
      conv => rhs; rw [spc, if_pos h]
      rfl
    · rw [spc, if_neg h, ih]
      conv => rhs; rw [spc, if_neg h]
      cases hr : spc d r with
      | nil => exact absurd hr (spc_ne d r)
      | cons x xs => rfl
theorem spc_last (d : UInt8) (s : Txt) (h : (spc d s).getLast? = some []) : s = [] ∨ ∃ r, s = r ++ [d] := by
  rcases List.eq_nil_or_concat s with rfl | ⟨r, c, rfl⟩
  · exact Or.inl rfl
  · right
    rw [List.concat_eq_append] at h ⊢
    by_cases hc : c = d
    · exact ⟨r, by rw [hc]⟩
    · exfalso
      have key : ∀ l : Txt, ∃ a x, spc d (l ++ [c]) = a ++ [x] ∧ x ≠ [] := by
        intro l
        induction l with
        | nil => exact ⟨[], [c], by rw [List.nil_append, spc_no d [c] (by simp; exact fun e => hc e.symm)]; rfl, by simp⟩
        | cons y l ih =>
          obtain ⟨a, x, e, hx⟩ := ih
          rw [List.cons_append, spc]
          by_cases hy : y = d
          · rw [if_pos hy, e]; exact ⟨[] :: a, x, rfl, hx⟩
          · rw [if_neg hy, e]
            cases a with
            | nil => exact ⟨[], y :: x, rfl, by simp⟩
            | cons z zs => exact ⟨(y :: z) :: zs, x, rfl, hx⟩
      obtain ⟨a, x, e, hx⟩ := key r
      rw [e] at h
      simp at h
      exact hx h
/-- lines that end -/
theorem lines_end (s : Txt) : linesF (s ++ [10]) = spc 10 s := by
  unfold linesF
  rw [if_neg (by simp)]
  rw [spc_cat 10 s [], show spc 10 [] = [[]] from rfl]
  simp
theorem lines_cat (s t : Txt) : ∃ r, linesF (s ++ 10 :: t) = spc 10 s ++ r := by
  unfold linesF
  rw [if_neg (by simp), spc_cat]
  split
  · rename_i h
    refine ⟨(spc 10 t).dropLast, ?_⟩
    rw [List.dropLast_append_of_ne_nil (spc_ne 10 t)]
  · exact ⟨_, rfl⟩
theorem read_cat : ∀ (a b : List Txt) (st : PSt) (i : Nat), readF st i (a ++ b) = match readF st i a with
    | .ok st' => readF st' (i + a.length) b
    | .error k => .error k
  | [], b, st, i => rfl
  | l :: r, b, st, i => by
    rw [List.cons_append, readF, readF]
    cases lineF st l with
    | none => rfl
    | some st' =>
      simp only
      rw [read_cat r b st' (i + 1)]
      cases readF st' (i + 1) r with
      | error k => rfl
      | ok st2 => simp only [List.length_cons]; rw [show i + 1 + r.length = i + (r.length + 1) by omega]
theorem read_at : ∀ (a : List Txt) (st : PSt) (i k : Nat), readF st i a = .error k → i ≤ k
  | [], st, i, k, h => by cases h
  | l :: r, st, i, k, h => by
    rw [readF] at h
    cases hl : lineF st l with
    | none => rw [hl] at h; simp only at h; cases h; exact Nat.le_refl _
    | some st' => rw [hl] at h; simp only at h; have := read_at r st' (i + 1) k h; omega
/-- a text's refusal stays whatever stands behind it, where its last line has not ended -/
theorem parts_same (s t : Txt) (hs : s.length ≤ 10000) (ht : t.length ≤ 10000) (h : (parseF s).2.2.2 ≠ 0) (hl : s ≠ [] ∧ s.getLast? ≠ some 10) :
    parseF (s ++ 10 :: t) = parseF s := by
  unfold parseF at h ⊢
  rw [if_neg (by omega)] at h
  rw [if_neg (by simp; omega), if_neg (by omega)]
  have hL : linesF s = spc 10 s := by
    unfold linesF
    rw [if_neg hl.1, if_neg]
    intro e
    rcases spc_last 10 s e with e | ⟨r, e⟩
    · exact hl.1 e
    · exact hl.2 (by rw [e]; simp)
  obtain ⟨r, hr⟩ := lines_cat s t
  rw [hr, hL, read_cat]
  rw [hL] at h
  cases hx : readF pst0 1 (spc 10 s) with
  | error k => rfl
  | ok st => rw [hx] at h; simp at h
theorem parts_bad (s t : Txt) (hs : s.length ≤ 10000) (ht : t.length ≤ 10000) (h : (parseF s).2.2.2 ≠ 0) : (parseF (s ++ 10 :: t)).2.2.2 ≠ 0 := by
  by_cases hl : s ≠ [] ∧ s.getLast? ≠ some 10
  · rw [parts_same s t hs ht h hl]; exact h
  · have hs' : s = [] ∨ ∃ r, s = r ++ [10] := by
      rcases List.eq_nil_or_concat s with rfl | ⟨r, c, rfl⟩
      · exact Or.inl rfl
      · right
        rw [List.concat_eq_append] at hl ⊢
        refine ⟨r, ?_⟩
        have : c = 10 := by
          apply Classical.byContradiction
          intro hc
          exact hl ⟨by simp, by simpa using hc⟩
        rw [this]
    rcases hs' with rfl | ⟨r, rfl⟩
    · exact absurd rfl h
    · unfold parseF at h ⊢
      rw [if_neg (by omega)] at h
      rw [if_neg (by simp at hs ⊢; omega)]
      rw [lines_end] at h
      have e : r ++ [10] ++ 10 :: t = r ++ 10 :: (10 :: t) := by simp
      obtain ⟨q, hq⟩ := lines_cat r (10 :: t)
      rw [e, hq, read_cat]
      cases hx : readF pst0 1 (spc 10 r) with
      | error k => simp
      | ok st => rw [hx] at h; simp at h
/-- what a refused text tells -/
theorem parse_bad (s : Txt) (h : (parseF s).2.2.2 ≠ 0) : (parseF s).1 = cfg0 ∧ (parseF s).2.1 = [] ∧ (s.length ≤ 65536 → 0 < (parseF s).2.2.1 ∧ (parseF s).2.2.2 = 19) := by
  unfold parseF at h ⊢
  split
  · exact ⟨rfl, rfl, fun h => by omega⟩
  · rename_i hle
    rw [if_neg hle] at h
    cases hx : readF pst0 1 (linesF s) with
    | error k => exact ⟨rfl, rfl, fun _ => ⟨by have := read_at _ _ _ _ hx; simp only; omega, rfl⟩⟩
    | ok st => rw [hx] at h; simp at h
theorem parse_ok (s : Txt) (h : (parseF s).2.2.2 = 0) : (parseF s).2.2.1 = 0 := by
  unfold parseF at h ⊢
  split
  · rfl
  · rename_i hle
    rw [if_neg hle] at h
    cases hx : readF pst0 1 (linesF s) with
    | error k => rw [hx] at h; simp at h
    | ok st => rfl
end Go.Proofs.YtefaaginedideaaGreatDoor
