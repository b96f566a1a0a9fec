/-
  The document's heap: Push.
-/
import Derived.Test.YtamgaklbkefejaaRefM
namespace Go.Proofs.Ytamgaklbkefejaa
set_option linter.unusedSimpArgs false
set_option linter.unusedVariables false
open Go.RowKit Go.Lib Own
open RegJ hiding Up
open RegF hiding put_size

theorem X_get (xs : List It) (j : Nat) (h : j < xs.length) : xs[j] = X xs j := by unfold X; simp [h]
theorem takeX (xs : List It) (k : Nat) (h : k < xs.length) : xs.take (k + 1) = xs.take k ++ [X xs k] := by
  rw [List.take_succ_eq_append_getElem h, X_get xs k h]
/-- what Push has gathered behind k rounds -/
def colP (xs : List It) (x : It) (C k : Nat) : List It := if C < k then xs.take C ++ x :: (xs.take k).drop C else xs.take k
theorem colP_zero (xs : List It) (x : It) (C : Nat) : colP xs x C 0 = [] := by unfold colP; simp
theorem colP_low {xs : List It} {x : It} {C k : Nat} (hk : k < xs.length) (h : k < C) : colP xs x C (k + 1) = colP xs x C k ++ [X xs k] := by
  unfold colP; rw [if_neg (by omega), if_neg (by omega), takeX xs k hk]
theorem colP_at {xs : List It} {x : It} {k : Nat} (hk : k < xs.length) : colP xs x k (k + 1) = (colP xs x k k ++ [x]) ++ [X xs k] := by
  unfold colP; rw [if_pos (by omega), if_neg (by omega), takeX xs k hk]
  have : (xs.take k).length = k := by simp; omega
  simp [List.drop_append, this]
theorem colP_high {xs : List It} {x : It} {C k : Nat} (hk : k < xs.length) (h : C < k) : colP xs x C (k + 1) = colP xs x C k ++ [X xs k] := by
  unfold colP; rw [if_pos (by omega), if_pos (by omega), takeX xs k hk]
  have : C - k = 0 := by omega
  simp [List.drop_append, Nat.min_eq_left (Nat.le_of_lt hk), this]
theorem colP_len (xs : List It) (x : It) (C k : Nat) : (colP xs x C k).length ≤ k + 1 := by
  unfold colP; split <;> simp <;> omega
theorem colP_fin {xs : List It} {x : It} {C : Nat} (h : C < xs.length) : colP xs x C xs.length = xs.take C ++ x :: xs.drop C := by
  unfold colP; rw [if_pos h]; simp
theorem colP_end {xs : List It} {x : It} : colP xs x xs.length xs.length ++ [x] = xs.take xs.length ++ x :: xs.drop xs.length := by
  unfold colP; rw [if_neg (by omega)]; simp
theorem ins_perm (xs : List It) (x : It) (C : Nat) : (xs.take C ++ x :: xs.drop C).Perm (xs ++ [x]) := by
  have h1 : (xs.take C ++ x :: xs.drop C).Perm (x :: (xs.take C ++ xs.drop C)) := List.perm_middle
  rw [List.take_append_drop] at h1
  exact h1.trans (List.perm_append_singleton x xs).symm
/-- where x belongs -/
theorem place (xs : List It) (x : It) (ho : InOrder xs) : ∃ C, C ≤ xs.length ∧ (∀ j, j < C → ¬ lt x (X xs j)) ∧ (∀ j, C ≤ j → j < xs.length → lt x (X xs j)) := by
  induction xs with
  | nil => exact ⟨0, Nat.le_refl _, fun j hj => by omega, fun j _ hj => by simp at hj⟩
  | cons a r ih =>
    have hp := List.pairwise_cons.1 ho
    by_cases h : lt x a
    · refine ⟨0, Nat.zero_le _, fun j hj => by omega, fun j _ hj => ?_⟩
      cases j with
      | zero => exact h
      | succ j =>
        have hm : r[j]'(by simpa using hj) ∈ r := List.getElem_mem _
        have h1 := hp.1 _ hm
        have e : X (a :: r) (j + 1) = r[j]'(by simpa using hj) := by rw [X_get]; unfold X; simp
        rw [e]
        unfold le lt at *; omega
    · obtain ⟨C, h1, h2, h3⟩ := ih hp.2
      refine ⟨C + 1, by simp; omega, fun j hj => ?_, fun j hj hjl => ?_⟩
      · cases j with
        | zero => exact h
        | succ j => have := h2 j (by omega); unfold X at *; simpa using this
      · cases j with
        | zero => omega
        | succ j => have := h3 j (by omega) (by simpa using hjl); unfold X at *; simpa using this
theorem ins_order {xs : List It} {x : It} {C : Nat} (ho : InOrder xs) (h1 : ∀ j, j < C → ¬ lt x (X xs j)) (h2 : ∀ j, C ≤ j → j < xs.length → lt x (X xs j)) : InOrder (xs.take C ++ x :: xs.drop C) := by
  unfold InOrder at *
  rw [List.pairwise_append, List.pairwise_cons]
  refine ⟨ho.take, ⟨fun y hy => ?_, ho.drop⟩, fun y hy z hz => ?_⟩
  · rw [List.mem_drop_iff_getElem] at hy
    obtain ⟨j, hj, rfl⟩ := hy
    rw [X_get]
    exact lt_le (h2 _ (by omega) (by omega))
  · rw [List.mem_take_iff_getElem] at hy
    obtain ⟨j, hj, rfl⟩ := hy
    rw [List.mem_cons] at hz
    rcases hz with rfl | hz
    · rw [X_get]; exact h1 j (by omega)
    · rw [List.mem_drop_iff_getElem] at hz
      obtain ⟨m, hm, rfl⟩ := hz
      exact List.pairwise_iff_getElem.1 ho _ _ _ _ (by omega)
end Go.Proofs.Ytamgaklbkefejaa
