/-
  A region that draws its order, in which new memory is made by up to three calls (each of them a step beyond what was there) and the last one's value is stored: the invariant. Program-independent.
-/
import Derived.Test.YtjpjafajploiaaaGreatDoorRegF
namespace Go.Proofs.YtjpjafajploiaaaGreatDoor.RegC
set_option linter.unusedSimpArgs false
set_option linter.unusedVariables false
open Go.RowKit
open Go.Proofs.YtjpjafajploiaaaGreatDoor.RegJ hiding Up
open Go.Proofs.YtjpjafajploiaaaGreatDoor.RegF hiding put_size

/-- calls e1, e2 in whatever order, e3 behind both, the store s last: their values lie in d1, d2, d3 -/
def EvJ (W : World) (e1 d1 : Nat) (P1 : Value → World → Prop) (e2 d2 : Nat) (P2 : Value → World → Prop) (e3 d3 : Nat) (P3 : Value → World → Prop) (s : Nat) (p : Addr) (f : Nat → Bool) (a : Act) (w : World) : Prop :=
  (f s = false → Below W.heap.size W w ∧ (f e1 = false → f e2 = false → f e3 = false → w = W) ∧ (f e1 = true → f e3 = false → P1 (slot a d1) w) ∧ (f e2 = true → f e3 = false → P2 (slot a d2) w) ∧ (f e3 = true → P3 (slot a d3) w)) ∧
  (f s = true → ∃ w0, Below W.heap.size W w0 ∧ P3 (slot a d3) w0 ∧ w = w0.setCell p (slot a d3))
section
variable {W : World} {e1 d1 e2 d2 e3 d3 s : Nat} {P1 P2 P3 : Value → World → Prop} {p : Addr} {f f' : Nat → Bool} {a a' : Act} {w w' : World} {v : Value}
theorem EvJ.start (a : Act) (hw : w = W) : EvJ W e1 d1 P1 e2 d2 P2 e3 d3 P3 s p (fun _ => false) a w := by
  subst hw
  exact ⟨fun _ => ⟨Below.refl _ _, fun _ _ _ => rfl, (fun h => by cases h), (fun h => by cases h), (fun h => by cases h)⟩, (fun h => by cases h)⟩
theorem EvJ.put (h : EvJ W e1 d1 P1 e2 d2 P2 e3 d3 P3 s p f a w) (f1 : f' e1 = f e1) (f2 : f' e2 = f e2) (f3 : f' e3 = f e3) (f4 : f' s = f s) (s1 : slot a' d1 = slot a d1) (s2 : slot a' d2 = slot a d2) (s3 : slot a' d3 = slot a d3) : EvJ W e1 d1 P1 e2 d2 P2 e3 d3 P3 s p f' a' w := by
  unfold EvJ at *
  rw [f1, f2, f3, f4, s1, s2, s3]
  exact h
theorem EvJ.bel (h : EvJ W e1 d1 P1 e2 d2 P2 e3 d3 P3 s p f a w) (hs : f s = false) : Below W.heap.size W w := (h.1 hs).1
theorem EvJ.ev1 (h : EvJ W e1 d1 P1 e2 d2 P2 e3 d3 P3 s p f a w) (hs : f s = false) (h3 : f e3 = false) (n2 : e1 ≠ e2) (n3 : e1 ≠ e3) (ns : e1 ≠ s) (s1 : slot a' d1 = v) (s2 : slot a' d2 = slot a d2) (hB : Below w.heap.size w w') (c2 : ∀ u, P2 u w → P2 u w') (hP : P1 v w') : EvJ W e1 d1 P1 e2 d2 P2 e3 d3 P3 s p (fset f e1) a' w' := by
  obtain ⟨g1, g0, g2, g3, g4⟩ := h.1 hs
  have q1 : fset f e1 e1 = true := by simp [fset]
  have q2 : fset f e1 e2 = f e2 := by simp [fset, Ne.symm n2]
  have q3 : fset f e1 e3 = f e3 := by simp [fset, Ne.symm n3]
  have q4 : fset f e1 s = f s := by simp [fset, Ne.symm ns]
  unfold EvJ
  rw [q1, q2, q3, q4, h3, hs, s1, s2]
  exact ⟨fun _ => ⟨g1.trans (hB.mono g1.size), (fun h => by cases h), fun _ _ => hP, fun h5 _ => c2 _ (g3 h5 h3), (fun h => by cases h)⟩, (fun h => by cases h)⟩
theorem EvJ.ev2 (h : EvJ W e1 d1 P1 e2 d2 P2 e3 d3 P3 s p f a w) (hs : f s = false) (h3 : f e3 = false) (n2 : e2 ≠ e1) (n3 : e2 ≠ e3) (ns : e2 ≠ s) (s1 : slot a' d1 = slot a d1) (s2 : slot a' d2 = v) (hB : Below w.heap.size w w') (c1 : ∀ u, P1 u w → P1 u w') (hP : P2 v w') : EvJ W e1 d1 P1 e2 d2 P2 e3 d3 P3 s p (fset f e2) a' w' := by
  obtain ⟨g1, g0, g2, g3, g4⟩ := h.1 hs
  have q1 : fset f e2 e2 = true := by simp [fset]
  have q2 : fset f e2 e1 = f e1 := by simp [fset, Ne.symm n2]
  have q3 : fset f e2 e3 = f e3 := by simp [fset, Ne.symm n3]
  have q4 : fset f e2 s = f s := by simp [fset, Ne.symm ns]
  unfold EvJ
  rw [q1, q2, q3, q4, h3, hs, s1, s2]
  exact ⟨fun _ => ⟨g1.trans (hB.mono g1.size), (fun _ h => by cases h), fun h5 _ => c1 _ (g2 h5 h3), fun _ _ => hP, (fun h => by cases h)⟩, (fun h => by cases h)⟩
theorem EvJ.ev3 (h : EvJ W e1 d1 P1 e2 d2 P2 e3 d3 P3 s p f a w) (hs : f s = false) (ns : e3 ≠ s) (s3 : slot a' d3 = v) (hB : Below W.heap.size W w') (hP : P3 v w') : EvJ W e1 d1 P1 e2 d2 P2 e3 d3 P3 s p (fset f e3) a' w' := by
  have q1 : fset f e3 e3 = true := by simp [fset]
  have q4 : fset f e3 s = f s := by simp [fset, Ne.symm ns]
  unfold EvJ
  rw [q1, q4, hs, s3]
  exact ⟨fun _ => ⟨hB, (fun _ _ h => by cases h), (fun _ h => by cases h), (fun _ h => by cases h), fun _ => hP⟩, (fun h => by cases h)⟩
theorem EvJ.store (h : EvJ W e1 d1 P1 e2 d2 P2 e3 d3 P3 s p f a w) (hs : f s = false) (h3 : f e3 = true) (s3 : slot a' d3 = slot a d3) (hv : slot a d3 = v) : EvJ W e1 d1 P1 e2 d2 P2 e3 d3 P3 s p (fset f s) a' (w.setCell p v) := by
  obtain ⟨g1, g0, g2, g3, g4⟩ := h.1 hs
  have q4 : fset f s s = true := by simp [fset]
  unfold EvJ
  rw [q4, s3]
  exact ⟨(fun h => by cases h), fun _ => ⟨w, g1, g4 h3, by rw [hv]⟩⟩
theorem EvJ.fin (h : EvJ W e1 d1 P1 e2 d2 P2 e3 d3 P3 s p f a w) (hs : f s = true) (hv : slot a d3 = v) : ∃ w0, Below W.heap.size W w0 ∧ P3 v w0 ∧ w = w0.setCell p v := by
  subst hv
  exact h.2 hs
end
end Go.Proofs.YtjpjafajploiaaaGreatDoor.RegC
