/-
  A region that draws its order and holds one call, or two: the worlds ahead of it and behind it.
-/
import Derived.Test.YtjpjafajploiaaaGreatDoorRegJ
namespace Go.Proofs.YtjpjafajploiaaaGreatDoor
set_option linter.unusedSimpArgs false
set_option linter.unusedVariables false
open RegJ

theorem fset_ne {f : Nat → Bool} {k c : Nat} (hk : k ≠ c) : fset f k c = f c := by unfold fset; simp; intro h; exact absurd h.symm hk
theorem fset_eq {f : Nat → Bool} {c : Nat} : fset f c c = true := by unfold fset; simp
/-- an operation that has come up: what it waited for has come up -/
theorem up_dep {md : Region.Mode} {i : Nat} {o : Oper} {f : Nat → Bool} (hf : RegJ.Up md i o f) (k : Nat) (h : o.after.any (fun e => e.on == k && Region.binds md e) = true) : f k = true := by
  rw [Array.any_eq_true] at h
  obtain ⟨j, hj, he⟩ := h
  simp only [Bool.and_eq_true, beq_iff_eq] at he
  have := hf.2 o.after[j] (Array.getElem_mem hj) he.2
  rw [he.1] at this; exact this
/-- ahead of operation c the world is as S false says, behind it as S true says -/
def J1 (c : Nat) (S : Bool → World → Prop) (f : Nat → Bool) (w : World) : Prop := S (f c) w
section
variable {c k : Nat} {S : Bool → World → Prop} {f : Nat → Bool} {w : World}
theorem J1.other (h : J1 c S f w) (hc : k ≠ c) : J1 c S (fset f k) w := by unfold J1 at *; rw [fset_ne hc]; exact h
theorem J1.here (h : J1 c S f w) (hf : f c = false) : S false w := by unfold J1 at h; rw [hf] at h; exact h
theorem J1.fin (h : S true w) : J1 c S (fset f c) w := by unfold J1; rw [fset_eq]; exact h
theorem J1.over (h : J1 c S f w) (hc : f c = true) : S true w := by unfold J1 at h; rw [hc] at h; exact h
end
def JJ (c d : Nat) (S : Bool → Bool → World → Prop) (f : Nat → Bool) (w : World) : Prop := S (f c) (f d) w
section
variable {c d k : Nat} {S : Bool → Bool → World → Prop} {f : Nat → Bool} {w : World}
theorem JJ.other (h : JJ c d S f w) (hc : k ≠ c) (hd : k ≠ d) : JJ c d S (fset f k) w := by unfold JJ at *; rw [fset_ne hc, fset_ne hd]; exact h
theorem JJ.one (h : JJ c d S f w) (hf : f c = false) : S false (f d) w := by unfold JJ at h; rw [hf] at h; exact h
theorem JJ.two (h : JJ c d S f w) (hf : f d = false) : S (f c) false w := by unfold JJ at h; rw [hf] at h; exact h
theorem JJ.fin1 (h : S true (f d) w) (hd : c ≠ d) : JJ c d S (fset f c) w := by unfold JJ; rw [fset_eq, fset_ne hd]; exact h
theorem JJ.fin2 (h : S (f c) true w) (hd : d ≠ c) : JJ c d S (fset f d) w := by unfold JJ; rw [fset_eq, fset_ne hd]; exact h
theorem JJ.over (h : JJ c d S f w) (hc : f c = true) (hd : f d = true) : S true true w := by unfold JJ at h; rw [hc, hd] at h; exact h
end
end Go.Proofs.YtjpjafajploiaaaGreatDoor
