/-
  A region that draws its order and holds a chain: a call whose world is told (N), new cells (A), an append (C), a last call (L). Program-independent.
-/
import Derived.Test.YtefaaginedideaaGreatDoorRegK
namespace Go.Proofs.YtefaaginedideaaGreatDoor
set_option linter.unusedSimpArgs false
set_option linter.unusedVariables false
open Go.RowKit Own RegJ

def ChJ (N A C L : Nat) (md : Region.Mode) (ops : Array Oper) (W W1 WA WC : World) (R : World → Prop) (f : Nat → Bool) (w : World) : Prop :=
  RegF.Closed md ops f ∧ (f L = true → R w) ∧ (f L = false → w = if f C = true then WC else if f A = true then WA else if f N = true then W1 else W)
section
variable {N A C L k : Nat} {md : Region.Mode} {ops : Array Oper} {W W1 WA WC w : World} {R : World → Prop} {f : Nat → Bool} {o : Oper}
theorem ChJ.other (h : ChJ N A C L md ops W W1 WA WC R f w) (ho : ops[k]? = some o) (hf : Up md k o f) (h1 : k ≠ N) (h2 : k ≠ A) (h3 : k ≠ C) (h4 : k ≠ L) : ChJ N A C L md ops W W1 WA WC R (fset f k) w := by
  refine ⟨RegF.Closed.fset ho ⟨hf, h.1⟩, ?_⟩
  rw [fset_ne h1, fset_ne h2, fset_ne h3, fset_ne h4]; exact h.2
theorem ChJ.atN (h : ChJ N A C L md ops W W1 WA WC R f w) (hN : f N = false) (hA : f A = false) (hC : f C = false) (hL : f L = false) : w = W := by have := h.2.2 hL; rw [hN, hA, hC] at this; exact this
theorem ChJ.atA (h : ChJ N A C L md ops W W1 WA WC R f w) (hN : f N = true) (hA : f A = false) (hC : f C = false) (hL : f L = false) : w = W1 := by have := h.2.2 hL; rw [hN, hA, hC] at this; exact this
theorem ChJ.atC (h : ChJ N A C L md ops W W1 WA WC R f w) (hA : f A = true) (hC : f C = false) (hL : f L = false) : w = WA := by have := h.2.2 hL; rw [hA, hC] at this; exact this
theorem ChJ.atL (h : ChJ N A C L md ops W W1 WA WC R f w) (hC : f C = true) (hL : f L = false) : w = WC := by have := h.2.2 hL; rw [hC] at this; exact this
theorem ChJ.fin (h : ChJ N A C L md ops W W1 WA WC R f w) (hL : f L = true) : R w := h.2.1 hL
theorem ChJ.goN (h : ChJ N A C L md ops W W1 WA WC R f w) (ho : ops[N]? = some o) (hf : Up md N o f) (hA : f A = false) (hC : f C = false) (hL : f L = false) (h1 : N ≠ A) (h2 : N ≠ C) (h3 : N ≠ L) : ChJ N A C L md ops W W1 WA WC R (fset f N) W1 := by
  refine ⟨RegF.Closed.fset ho ⟨hf, h.1⟩, fun h => ?_, fun _ => ?_⟩
  · rw [fset_ne h3, hL] at h; cases h
  · rw [fset_ne h2, fset_ne h1, hA, hC, fset_eq]; rfl
theorem ChJ.goA (h : ChJ N A C L md ops W W1 WA WC R f w) (ho : ops[A]? = some o) (hf : Up md A o f) (hC : f C = false) (hL : f L = false) (h2 : A ≠ C) (h3 : A ≠ L) : ChJ N A C L md ops W W1 WA WC R (fset f A) WA := by
  refine ⟨RegF.Closed.fset ho ⟨hf, h.1⟩, fun h => ?_, fun _ => ?_⟩
  · rw [fset_ne h3, hL] at h; cases h
  · rw [fset_ne h2, hC, fset_eq]; rfl
theorem ChJ.goC (h : ChJ N A C L md ops W W1 WA WC R f w) (ho : ops[C]? = some o) (hf : Up md C o f) (hL : f L = false) (h3 : C ≠ L) : ChJ N A C L md ops W W1 WA WC R (fset f C) WC := by
  refine ⟨RegF.Closed.fset ho ⟨hf, h.1⟩, fun h => ?_, fun _ => ?_⟩
  · rw [fset_ne h3, hL] at h; cases h
  · rw [fset_eq]; rfl
theorem ChJ.goL {w' : World} (h : ChJ N A C L md ops W W1 WA WC R f w) (ho : ops[L]? = some o) (hf : Up md L o f) (hR : R w') : ChJ N A C L md ops W W1 WA WC R (fset f L) w' := by
  refine ⟨RegF.Closed.fset ho ⟨hf, h.1⟩, fun _ => hR, fun h => ?_⟩
  rw [fset_eq] at h; cases h
/-- ahead of the last call it is one of four -/
theorem ChJ.pre {F : World → Prop} (h : ChJ N A C L md ops W W1 WA WC R f w) (hL : f L = false) (h1 : F W) (h2 : F W1) (h3 : F WA) (h4 : F WC) : F w := by
  have := h.2.2 hL
  rw [this]
  cases f C <;> cases f A <;> cases f N <;> first | exact h1 | exact h2 | exact h3 | exact h4
end
theorem region_Ch {P : Program} {id : Nat} {Q : Exit → Act → World → Prop} {a : Act} {w : World} {l : List Oper} (N A C L : Nat) (W W1 WA WC : World) (R : World → Prop) (hW : w.drew = W) (hm : P.follows .mixedOrders = true) (hB : Region.lexB .any l.toArray = true)
    (h : wpJ P .any l.toArray (ChJ N A C L .any l.toArray W W1 WA WC R) a.tmps.size (fun s a' => ∀ w', ChJ N A C L .any l.toArray W W1 WA WC R (flags s) w' → Q .normal a' w') 0 l (Array.replicate l.length false) a) : (Code.region id l.toArray true).wp P Q a w :=
  region_J (ChJ N A C L .any l.toArray W W1 WA WC R) hm hB ⟨fun k o ho h => (by cases h), fun h => (by cases h), fun _ => hW⟩ h
end Go.Proofs.YtefaaginedideaaGreatDoor
