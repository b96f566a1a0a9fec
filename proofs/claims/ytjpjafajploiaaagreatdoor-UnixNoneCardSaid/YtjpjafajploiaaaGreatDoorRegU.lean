/-
  Regions that draw their order: two calls, one behind the other, and a store; a call, new cells and a store into them. Program-independent.
-/
import Derived.Test.YtjpjafajploiaaaGreatDoorRegS
namespace Go.Proofs.YtjpjafajploiaaaGreatDoor
set_option linter.unusedSimpArgs false
set_option linter.unusedVariables false
open Go.RowKit Own RegJ

/-- A, behind it B, behind it the store S: what holds behind each -/
def UJ (A B S : Nat) (md : Region.Mode) (ops : Array Oper) (W : World) (R1 R2 R3 : World → Prop) (f : Nat → Bool) (w : World) : Prop :=
  RegF.Closed md ops f ∧ if f S then R3 w else if f B then R2 w else if f A then R1 w else w = W
section
variable {A B S k : Nat} {md : Region.Mode} {ops : Array Oper} {W w w' : World} {R1 R2 R3 : World → Prop} {f : Nat → Bool} {o : Oper}
theorem UJ.other (h : UJ A B S md ops W R1 R2 R3 f w) (ho : ops[k]? = some o) (hf : Up md k o f) (h1 : k ≠ A) (h2 : k ≠ B) (h3 : k ≠ S) : UJ A B S md ops W R1 R2 R3 (fset f k) w := by
  refine ⟨RegF.Closed.fset ho ⟨hf, h.1⟩, ?_⟩
  rw [fset_ne h1, fset_ne h2, fset_ne h3]; exact h.2
theorem UJ.atA (h : UJ A B S md ops W R1 R2 R3 f w) (hA : f A = false) (hB : f B = false) (hS : f S = false) : w = W := by have := h.2; rw [hA, hB, hS] at this; exact this
theorem UJ.atB (h : UJ A B S md ops W R1 R2 R3 f w) (hA : f A = true) (hB : f B = false) (hS : f S = false) : R1 w := by have := h.2; rw [hA, hB, hS] at this; exact this
theorem UJ.atS (h : UJ A B S md ops W R1 R2 R3 f w) (hB : f B = true) (hS : f S = false) : R2 w := by have := h.2; rw [hB, hS] at this; exact this
theorem UJ.fin (h : UJ A B S md ops W R1 R2 R3 f w) (hS : f S = true) : R3 w := by have := h.2; rw [hS] at this; exact this
theorem UJ.goA (h : UJ A B S md ops W R1 R2 R3 f w) (ho : ops[A]? = some o) (hf : Up md A o f) (hB : f B = false) (hS : f S = false) (h1 : A ≠ B) (h2 : A ≠ S) (hq : R1 w') : UJ A B S md ops W R1 R2 R3 (fset f A) w' := by
  refine ⟨RegF.Closed.fset ho ⟨hf, h.1⟩, ?_⟩
  rw [fset_eq, fset_ne h1, fset_ne h2, hB, hS]; exact hq
theorem UJ.goB (h : UJ A B S md ops W R1 R2 R3 f w) (ho : ops[B]? = some o) (hf : Up md B o f) (hS : f S = false) (h2 : B ≠ S) (hq : R2 w') : UJ A B S md ops W R1 R2 R3 (fset f B) w' := by
  refine ⟨RegF.Closed.fset ho ⟨hf, h.1⟩, ?_⟩
  rw [fset_eq, fset_ne h2, hS]; exact hq
theorem UJ.goS (h : UJ A B S md ops W R1 R2 R3 f w) (ho : ops[S]? = some o) (hf : Up md S o f) (hq : R3 w') : UJ A B S md ops W R1 R2 R3 (fset f S) w' := by
  refine ⟨RegF.Closed.fset ho ⟨hf, h.1⟩, ?_⟩
  rw [fset_eq]; exact hq
end
theorem region_U {P : Program} {id : Nat} {Q : Exit → Act → World → Prop} {a : Act} {w : World} {l : List Oper} (A B S : Nat) (W : World) (R1 R2 R3 : World → Prop) (hW : w.drew = W) (hm : P.follows .mixedOrders = true) (hB : Region.lexB .any l.toArray = true)
    (h : wpJ P .any l.toArray (UJ A B S .any l.toArray W R1 R2 R3) a.tmps.size (fun s a' => ∀ w', UJ A B S .any l.toArray W R1 R2 R3 (flags s) w' → Q .normal a' w') 0 l (Array.replicate l.length false) a) : (Code.region id l.toArray true).wp P Q a w :=
  region_J (UJ A B S .any l.toArray W R1 R2 R3) hm hB ⟨fun k o ho h => (by cases h), hW⟩ h
/-! ### a call that makes memory, new cells, and a store into them -/
open RegF in
/-- A: new cells zs, their block into slot d; S: they become cs; all else lies beyond W -/
def LJ (W : World) (A S d : Nat) (zs cs : Array Value) (T : TypeId) (f : Nat → Bool) (a : Act) (w : World) : Prop :=
  Below W.heap.size W w ∧ (f A = true → ∃ b, slot a d = .pointer (some ⟨b, 0, none⟩) ∧ W.heap.size ≤ b ∧ Blk w b (if f S then cs else zs) T)
section
open RegF
variable {W w w' : World} {A S d : Nat} {zs cs : Array Value} {T : TypeId} {f f' : Nat → Bool} {a a' : Act}
theorem LJ.start (a : Act) (hw : w = W) : LJ W A S d zs cs T (fun _ => false) a w := by subst hw; exact ⟨Below.refl _ _, fun h => by cases h⟩
theorem LJ.put (h : LJ W A S d zs cs T f a w) (e1 : f' A = f A) (e2 : f' S = f S) (s : slot a' d = slot a d) : LJ W A S d zs cs T f' a' w := by
  unfold LJ at *
  rw [e1, e2, s]; exact h
theorem LJ.call (h : LJ W A S d zs cs T f a w) (e1 : f' A = f A) (e2 : f' S = f S) (s : slot a' d = slot a d) (hB : Below w.heap.size w w') : LJ W A S d zs cs T f' a' w' := by
  refine ⟨h.1.trans (hB.mono h.1.size), fun hA => ?_⟩
  rw [e1] at hA
  obtain ⟨b, h1, h2, h3⟩ := h.2 hA
  rw [e2, s]
  exact ⟨b, h1, h2, Blk.below hB h3 h3.lt⟩
theorem LJ.alloc (h : LJ W A S d zs cs T f a w) (e1 : f' A = true) (e2 : f' S = false) (s : slot a' d = .pointer (some ⟨w.heap.size, 0, none⟩)) : LJ W A S d zs cs T f' a' (w.alloc (.cells zs T)) := by
  refine ⟨h.1.trans (((Below.refl _ _).alloc (Nat.le_refl _) _).mono h.1.size), fun _ => ⟨w.heap.size, s, h.1.size, ?_⟩⟩
  rw [e2]
  exact Blk.new w zs T
theorem LJ.at' (h : LJ W A S d zs cs T f a w) (hA : f A = true) {b : Nat} (hs : slot a d = .pointer (some ⟨b, 0, none⟩)) : W.heap.size ≤ b ∧ Blk w b (if f S then cs else zs) T := by
  obtain ⟨b', h1, h2, h3⟩ := h.2 hA
  rw [hs] at h1
  cases h1
  exact ⟨h2, h3⟩
theorem LJ.store (h : LJ W A S d zs cs T f a w) (e1 : f' A = f A) (e2 : f' S = true) (s : slot a' d = slot a d) {b : Nat} (hA : f A = true) (hb : slot a d = .pointer (some ⟨b, 0, none⟩)) (hB : Blk w' b cs T) (hu : Upd (fun k => k = b) w w') : LJ W A S d zs cs T f' a' w' := by
  obtain ⟨h2, h3⟩ := h.at' hA hb
  refine ⟨h.1.trans ((hu.below (B := W.heap.size) h.1.size (fun k hk => by omega))), fun _ => ⟨b, by rw [s]; exact hb, h2, ?_⟩⟩
  rw [e2]
  exact hB
end
end Go.Proofs.YtjpjafajploiaaaGreatDoor
