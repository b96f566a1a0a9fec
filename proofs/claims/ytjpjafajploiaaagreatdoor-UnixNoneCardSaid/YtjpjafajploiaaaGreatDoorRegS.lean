/-
  Regions that draw their order: with an alloc, an append and a store; with one store; with one call; with a chain of calls. Program-independent.
-/
import Derived.Test.YtjpjafajploiaaaGreatDoorOwn
import Derived.Test.YtjpjafajploiaaaGreatDoorJone
import Derived.Test.YtjpjafajploiaaaGreatDoorRegF
namespace Go.Proofs.YtjpjafajploiaaaGreatDoor
set_option linter.unusedSimpArgs false
set_option linter.unusedVariables false
open Go.RowKit Own RegJ

def edgeB (md : Region.Mode) (ops : Array Oper) (j i : Nat) : Bool := match ops[j]? with
  | some o => o.after.any fun e => Region.binds md e && e.on == i
  | none => false
def routeB (md : Region.Mode) (ops : Array Oper) : Nat → List Nat → Bool
  | _, [] => true
  | j, i :: r => edgeB md ops j i && routeB md ops i r
theorem path_up {md : Region.Mode} {ops : Array Oper} {f : Nat → Bool} (h : RegF.Closed md ops f) : ∀ (l : List Nat) (j : Nat), routeB md ops j l = true → f j = true → ∀ i ∈ l, f i = true
  | [], _, _, _, i, hi => by cases hi
  | k :: r, j, hp, hf, i, hi => by
    simp only [routeB, Bool.and_eq_true] at hp
    have hk : f k = true := by
      have he := hp.1
      unfold edgeB at he
      split at he
      · rename_i o ho; exact h.step j k ho he hf
      · cases he
    rw [List.mem_cons] at hi
    rcases hi with rfl | hi
    · exact hk
    · exact path_up h r k hp.2 hk i hi
theorem path_no {md : Region.Mode} {ops : Array Oper} {f : Nat → Bool} (h : RegF.Closed md ops f) {j k : Nat} (l : List Nat) (hp : routeB md ops j l = true) (hk : l.contains k = true) (hf : f k = false) : f j = false := by
  cases hj : f j with
  | false => rfl
  | true => rw [path_up h l j hp hj k (by simpa using hk)] at hf; cases hf
/-- the four worlds: ahead, with the new element, behind the append, behind the store -/
def Stg (W WA WC WS : World) (a c s : Bool) (w : World) : Prop := w = if s then WS else if c then WC else if a then WA else W
def KJ (A C S : Nat) (md : Region.Mode) (ops : Array Oper) (W WA WC WS : World) (f : Nat → Bool) (w : World) : Prop := RegF.Closed md ops f ∧ Stg W WA WC WS (f A) (f C) (f S) w
section
variable {A C S k : Nat} {md : Region.Mode} {ops : Array Oper} {W WA WC WS w : World} {f : Nat → Bool} {o : Oper}
theorem KJ.start (md : Region.Mode) (ops : Array Oper) (A C S : Nat) (hw : w = W) : KJ A C S md ops W WA WC WS (fun _ => false) w := ⟨fun k o ho h => (by cases h), hw⟩
theorem KJ.other (h : KJ A C S md ops W WA WC WS f w) (ho : ops[k]? = some o) (hf : Up md k o f) (h1 : k ≠ A) (h2 : k ≠ C) (h3 : k ≠ S) : KJ A C S md ops W WA WC WS (fset f k) w := by
  refine ⟨RegF.Closed.fset ho ⟨hf, h.1⟩, ?_⟩
  rw [fset_ne h1, fset_ne h2, fset_ne h3]; exact h.2
theorem KJ.atA (h : KJ A C S md ops W WA WC WS f w) (hA : f A = false) (hC : f C = false) (hS : f S = false) : w = W := by have := h.2; rw [hA, hC, hS] at this; exact this
theorem KJ.atC (h : KJ A C S md ops W WA WC WS f w) (hA : f A = true) (hC : f C = false) (hS : f S = false) : w = WA := by have := h.2; rw [hA, hC, hS] at this; exact this
theorem KJ.atS (h : KJ A C S md ops W WA WC WS f w) (hC : f C = true) (hS : f S = false) : w = WC := by have := h.2; rw [hC, hS] at this; exact this
theorem KJ.fin (h : KJ A C S md ops W WA WC WS f w) (hS : f S = true) : w = WS := by have := h.2; rw [hS] at this; exact this
theorem KJ.goA (h : KJ A C S md ops W WA WC WS f w) (ho : ops[A]? = some o) (hf : Up md A o f) (hC : f C = false) (hS : f S = false) (h1 : A ≠ C) (h2 : A ≠ S) : KJ A C S md ops W WA WC WS (fset f A) WA := by
  refine ⟨RegF.Closed.fset ho ⟨hf, h.1⟩, ?_⟩
  rw [fset_eq, fset_ne h1, fset_ne h2, hC, hS]; rfl
theorem KJ.goC (h : KJ A C S md ops W WA WC WS f w) (ho : ops[C]? = some o) (hf : Up md C o f) (hS : f S = false) (h2 : C ≠ S) : KJ A C S md ops W WA WC WS (fset f C) WC := by
  refine ⟨RegF.Closed.fset ho ⟨hf, h.1⟩, ?_⟩
  rw [fset_eq, fset_ne h2, hS]; rfl
theorem KJ.goS (h : KJ A C S md ops W WA WC WS f w) (ho : ops[S]? = some o) (hf : Up md S o f) : KJ A C S md ops W WA WC WS (fset f S) WS := by
  refine ⟨RegF.Closed.fset ho ⟨hf, h.1⟩, ?_⟩
  rw [fset_eq]; rfl
/-- ahead of the store it is one of three -/
theorem KJ.pre {F : World → Prop} (h : KJ A C S md ops W WA WC WS f w) (hS : f S = false) (h1 : F W) (h2 : F WA) (h3 : F WC) : F w := by
  have := h.2
  rw [hS] at this
  unfold Stg at this
  rw [this]
  cases f C <;> cases f A <;> assumption
/-- at any time it is one of four -/
theorem KJ.any {F : World → Prop} (h : KJ A C S md ops W WA WC WS f w) (h1 : F W) (h2 : F WA) (h3 : F WC) (h4 : F WS) : F w := by
  have := h.2
  unfold Stg at this
  rw [this]
  cases f S <;> cases f C <;> cases f A <;> assumption
end
theorem region_K {P : Program} {id : Nat} {Q : Exit → Act → World → Prop} {a : Act} {w : World} {l : List Oper} (A C S : Nat) (W WA WC WS : World) (hW : w.drew = W) (hm : P.follows .mixedOrders = true) (hB : Region.lexB .any l.toArray = true)
    (h : wpJ P .any l.toArray (KJ A C S .any l.toArray W WA WC WS) a.tmps.size (fun s a' => ∀ w', KJ A C S .any l.toArray W WA WC WS (flags s) w' → Q .normal a' w') 0 l (Array.replicate l.length false) a) : (Code.region id l.toArray true).wp P Q a w :=
  region_J (KJ A C S .any l.toArray W WA WC WS) hm hB (KJ.start _ _ _ _ _ hW) h
theorem KJ.pre2 {A S : Nat} {md : Region.Mode} {ops : Array Oper} {W WA WC WS w : World} {f : Nat → Bool} {F : World → Prop} (h : KJ A S S md ops W WA WC WS f w) (hS : f S = false) (h1 : F W) (h2 : F WA) : F w := by
  have := h.2
  rw [hS] at this
  unfold Stg at this
  rw [this]
  cases f A <;> assumption
/-! ### one store in a region that draws its order -/
def SJ (S : Nat) (md : Region.Mode) (ops : Array Oper) (W WS : World) (f : Nat → Bool) (w : World) : Prop := RegF.Closed md ops f ∧ w = if f S then WS else W
section
variable {S k : Nat} {md : Region.Mode} {ops : Array Oper} {W WS w : World} {f : Nat → Bool} {o : Oper}
theorem SJ.other (h : SJ S md ops W WS f w) (ho : ops[k]? = some o) (hf : Up md k o f) (h3 : k ≠ S) : SJ S md ops W WS (fset f k) w := by
  refine ⟨RegF.Closed.fset ho ⟨hf, h.1⟩, ?_⟩
  rw [fset_ne h3]; exact h.2
theorem SJ.atS (h : SJ S md ops W WS f w) (hS : f S = false) : w = W := by have := h.2; rw [hS] at this; exact this
theorem SJ.fin (h : SJ S md ops W WS f w) (hS : f S = true) : w = WS := by have := h.2; rw [hS] at this; exact this
theorem SJ.goS (h : SJ S md ops W WS f w) (ho : ops[S]? = some o) (hf : Up md S o f) : SJ S md ops W WS (fset f S) WS := by
  refine ⟨RegF.Closed.fset ho ⟨hf, h.1⟩, ?_⟩
  rw [fset_eq]; rfl
end
theorem region_S {P : Program} {id : Nat} {Q : Exit → Act → World → Prop} {a : Act} {w : World} {l : List Oper} (S : Nat) (W WS : World) (hW : w.drew = W) (hm : P.follows .mixedOrders = true) (hB : Region.lexB .any l.toArray = true)
    (h : wpJ P .any l.toArray (SJ S .any l.toArray W WS) a.tmps.size (fun s a' => ∀ w', SJ S .any l.toArray W WS (flags s) w' → Q .normal a' w') 0 l (Array.replicate l.length false) a) : (Code.region id l.toArray true).wp P Q a w :=
  region_J (SJ S .any l.toArray W WS) hm hB ⟨fun k o ho h => (by cases h), hW⟩ h
/-! ### one call in a region that draws its order -/
def CJ (C : Nat) (md : Region.Mode) (ops : Array Oper) (W : World) (Q : World → Prop) (f : Nat → Bool) (w : World) : Prop := RegF.Closed md ops f ∧ if f C then Q w else w = W
section
variable {C k : Nat} {md : Region.Mode} {ops : Array Oper} {W w w' : World} {Q : World → Prop} {f : Nat → Bool} {o : Oper}
theorem CJ.other (h : CJ C md ops W Q f w) (ho : ops[k]? = some o) (hf : Up md k o f) (h3 : k ≠ C) : CJ C md ops W Q (fset f k) w := by
  refine ⟨RegF.Closed.fset ho ⟨hf, h.1⟩, ?_⟩
  rw [fset_ne h3]; exact h.2
theorem CJ.atC (h : CJ C md ops W Q f w) (hC : f C = false) : w = W := by have := h.2; rw [hC] at this; exact this
theorem CJ.fin (h : CJ C md ops W Q f w) (hC : f C = true) : Q w := by have := h.2; rw [hC] at this; exact this
theorem CJ.goC (h : CJ C md ops W Q f w) (ho : ops[C]? = some o) (hf : Up md C o f) (hq : Q w') : CJ C md ops W Q (fset f C) w' := by
  refine ⟨RegF.Closed.fset ho ⟨hf, h.1⟩, ?_⟩
  rw [fset_eq]; exact hq
end
theorem region_C {P : Program} {id : Nat} {Q' : Exit → Act → World → Prop} {a : Act} {w : World} {l : List Oper} (C : Nat) (W : World) (Q : World → Prop) (hW : w.drew = W) (hm : P.follows .mixedOrders = true) (hB : Region.lexB .any l.toArray = true)
    (h : wpJ P .any l.toArray (CJ C .any l.toArray W Q) a.tmps.size (fun s a' => ∀ w', CJ C .any l.toArray W Q (flags s) w' → Q' .normal a' w') 0 l (Array.replicate l.length false) a) : (Code.region id l.toArray true).wp P Q' a w :=
  region_J (CJ C .any l.toArray W Q) hm hB ⟨fun k o ho h => (by cases h), hW⟩ h
def ChJ (N A C L : Nat) (md : Region.Mode) (ops : Array Oper) (W W1 WA WC : World) (R : World → Prop) (f : Nat → Bool) (w : World) : Prop :=
  RegF.Closed md ops f ∧ (f L = true → R w) ∧ (f L = false → w = if f C = true then WC else if f A = true then WA else if f N = true then W1 else W)
section
variable {N A C L k : Nat} {md : Region.Mode} {ops : Array Oper} {W W1 WA WC w : World} {R : World → Prop} {f : Nat → Bool} {o : Oper}
theorem ChJ.other (h : ChJ N A C L md ops W W1 WA WC R f w) (ho : ops[k]? = some o) (hf : Up md k o f) (h1 : k ≠ N) (h2 : k ≠ A) (h3 : k ≠ C) (h4 : k ≠ L) : ChJ N A C L md ops W W1 WA WC R (fset f k) w := by
  refine ⟨RegF.Closed.fset ho ⟨hf, h.1⟩, ?_⟩
  rw [fset_ne h1, fset_ne h2, fset_ne h3, fset_ne h4]; exact h.2
theorem ChJ.atN (h : ChJ N A C L md ops W W1 WA WC R f w) (hN : f N = false) (hA : f A = false) (hC : f C = false) (hL : f L = false) : w = W := by have := h.2.2 hL; rw [hN, hA, hC] at this; exact this
theorem ChJ.atA (h : ChJ N A C L md ops W W1 WA WC R f w) (hN : f N = true) (hA : f A = false) (hC : f C = false) (hL : f L = false) : w = W1 := by have := h.2.2 hL; rw [hN, hA, hC] at this; exact this
theorem ChJ.atC (h : ChJ N A C L md ops W W1 WA WC R f w) (hA : f A = true) (hC : f C = false) (hL : f L = false) : w = WA := by have := h.2.2 hL; rw [hA, hC] at this; exact this
theorem ChJ.atL (h : ChJ N A C L md ops W W1 WA WC R f w) (hC : f C = true) (hL : f L = false) : w = WC := by have := h.2.2 hL; rw [hC] at this; exact this
theorem ChJ.fin (h : ChJ N A C L md ops W W1 WA WC R f w) (hL : f L = true) : R w := h.2.1 hL
theorem ChJ.goN (h : ChJ N A C L md ops W W1 WA WC R f w) (ho : ops[N]? = some o) (hf : Up md N o f) (hA : f A = false) (hC : f C = false) (hL : f L = false) (h1 : N ≠ A) (h2 : N ≠ C) (h3 : N ≠ L) : ChJ N A C L md ops W W1 WA WC R (fset f N) W1 := by
  refine ⟨RegF.Closed.fset ho ⟨hf, h.1⟩, fun h => ?_, fun _ => ?_⟩
  · rw [fset_ne h3, hL] at h; cases h
  · rw [fset_ne h2, fset_ne h1, hA, hC, fset_eq]; rfl
theorem ChJ.goA (h : ChJ N A C L md ops W W1 WA WC R f w) (ho : ops[A]? = some o) (hf : Up md A o f) (hC : f C = false) (hL : f L = false) (h2 : A ≠ C) (h3 : A ≠ L) : ChJ N A C L md ops W W1 WA WC R (fset f A) WA := by
  refine ⟨RegF.Closed.fset ho ⟨hf, h.1⟩, fun h => ?_, fun _ => ?_⟩
  · rw [fset_ne h3, hL] at h; cases h
  · rw [fset_ne h2, hC, fset_eq]; rfl
theorem ChJ.goC (h : ChJ N A C L md ops W W1 WA WC R f w) (ho : ops[C]? = some o) (hf : Up md C o f) (hL : f L = false) (h3 : C ≠ L) : ChJ N A C L md ops W W1 WA WC R (fset f C) WC := by
  refine ⟨RegF.Closed.fset ho ⟨hf, h.1⟩, fun h => ?_, fun _ => ?_⟩
  · rw [fset_ne h3, hL] at h; cases h
  · rw [fset_eq]; rfl
theorem ChJ.goL {w' : World} (h : ChJ N A C L md ops W W1 WA WC R f w) (ho : ops[L]? = some o) (hf : Up md L o f) (hR : R w') : ChJ N A C L md ops W W1 WA WC R (fset f L) w' := by
  refine ⟨RegF.Closed.fset ho ⟨hf, h.1⟩, fun _ => hR, fun h => ?_⟩
  rw [fset_eq] at h; cases h
/-- ahead of the last call it is one of four -/
theorem ChJ.pre {F : World → Prop} (h : ChJ N A C L md ops W W1 WA WC R f w) (hL : f L = false) (h1 : F W) (h2 : F W1) (h3 : F WA) (h4 : F WC) : F w := by
  have := h.2.2 hL
  rw [this]
  cases f C <;> cases f A <;> cases f N <;> first | exact h1 | exact h2 | exact h3 | exact h4
end
theorem region_Ch {P : Program} {id : Nat} {Q : Exit → Act → World → Prop} {a : Act} {w : World} {l : List Oper} (N A C L : Nat) (W W1 WA WC : World) (R : World → Prop) (hW : w.drew = W) (hm : P.follows .mixedOrders = true) (hB : Region.lexB .any l.toArray = true)
    (h : wpJ P .any l.toArray (ChJ N A C L .any l.toArray W W1 WA WC R) a.tmps.size (fun s a' => ∀ w', ChJ N A C L .any l.toArray W W1 WA WC R (flags s) w' → Q .normal a' w') 0 l (Array.replicate l.length false) a) : (Code.region id l.toArray true).wp P Q a w :=
  region_J (ChJ N A C L .any l.toArray W W1 WA WC R) hm hB ⟨fun k o ho h => (by cases h), fun h => (by cases h), fun _ => hW⟩ h
end Go.Proofs.YtjpjafajploiaaaGreatDoor
