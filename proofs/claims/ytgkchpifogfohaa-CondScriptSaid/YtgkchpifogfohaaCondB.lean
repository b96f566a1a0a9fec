/-
  The conditions: which one is the best of a row; bits of a number of sixteen bits.
-/
import Derived.Test.YtgkchpifogfohaaCondA
namespace Go.Proofs.Ytgkchpifogfohaa
set_option linter.unusedSimpArgs false
set_option linter.unusedVariables false
open Go.RowKit Go.Lib Own Sl
open RegJ hiding Up
open RegF hiding put_size

/-- a is ahead of b, or is b -/
def Ahead (Q : Nat → Int) (a b : Int) : Prop := Q b.toNat < Q a.toNat ∨ (Q b.toNat = Q a.toNat ∧ a ≤ b)
theorem Ahead.trans {Q : Nat → Int} {a b c : Int} (h : Ahead Q a b) (k : Ahead Q b c) : Ahead Q a c := by
  unfold Ahead at *; omega
theorem best_ahead (Q : Nat → Int) (x : Int) (r : List Int) (h : (x :: r).Pairwise (· < ·)) : ∀ y ∈ x :: r, Ahead Q (bestF Q x r) y := by
  induction r generalizing x with
  | nil => intro y hy; simp at hy; subst hy; exact Or.inr ⟨rfl, Int.le_refl _⟩
  | cons z r ih =>
    rw [List.pairwise_cons, List.pairwise_cons] at h
    obtain ⟨h1, h2, h3⟩ := h
    have hxz := h1 z (by simp)
    have he : bestF Q x (z :: r) = bestF Q (if Q x.toNat < Q z.toNat then z else x) r := by unfold bestF; rw [List.foldl_cons]
    rw [he]
    by_cases hk : Q x.toNat < Q z.toNat
    · rw [if_pos hk]
      have := ih z (List.pairwise_cons.2 ⟨h2, h3⟩)
      intro y hy
      rw [List.mem_cons] at hy
      rcases hy with rfl | hy
      · exact (this z (by simp)).trans (Or.inl hk)
      · exact this y hy
    · rw [if_neg hk]
      have := ih x (List.pairwise_cons.2 ⟨fun a ha => h1 a (by simp [ha]), h3⟩)
      intro y hy
      rw [List.mem_cons, List.mem_cons] at hy
      rcases hy with rfl | rfl | hy
      · exact this y (by simp)
      · refine (this x (by simp)).trans ?_
        unfold Ahead; omega
      · exact this y (by simp [hy])
theorem del_len {ls : Nat → List Int} (h : Good ls) (i : Nat) (t : Int) (ht : t ∈ ls i) : (delF ls i t i).length + 1 = (ls i).length := by
  unfold delF put
  rw [if_pos rfl]
  have hs := h.sorted i
  generalize ls i = l at *
  induction l with
  | nil => simp at ht
  | cons x l ih =>
    rw [List.pairwise_cons] at hs
    rw [List.mem_cons] at ht
    by_cases hx : x = t
    · subst hx
      have : l.filter (fun y => !(y == x)) = l := by
        rw [List.filter_eq_self]; intro y hy
        have := hs.1 y hy
        simp; omega
      simp [this]
    · have ht' : t ∈ l := by rcases ht with h | h; exact absurd h.symm hx; exact h
      have := ih ht' hs.2
      simp [hx, this]
theorem ins_len (ls : Nat → List Int) (i : Nat) (t : Int) : (insF ls i t i).length = (ls i).length + 1 := by
  unfold insF put
  rw [if_pos rfl]
  simp only [List.length_append, List.length_cons, List.length_take, List.length_drop]
  omega
/-- is the bit up? -/
def bitF (x : Int) (i : Nat) : Bool := bits BinOp.and IntKind.u16 (x / 2 ^ i) 1 == 1
end Go.Proofs.Ytgkchpifogfohaa
