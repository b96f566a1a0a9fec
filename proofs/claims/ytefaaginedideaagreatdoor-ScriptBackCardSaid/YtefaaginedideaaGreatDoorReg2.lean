/-
  A region that draws its order, makes two blocks and stores into each. Program-independent.
-/
import Derived.Test.YtefaaginedideaaGreatDoorRegE
import Derived.Test.YtefaaginedideaaGreatDoorRegF
import Derived.Test.YtefaaginedideaaGreatDoorOwn
import Derived.Test.YtefaaginedideaaGreatDoorSPar
namespace Go.Proofs.YtefaaginedideaaGreatDoor
set_option linter.unusedSimpArgs false
set_option linter.unusedVariables false
open Go.RowKit Own RegJ RegE

structure TwoK where
  T : TypeId
  z : Array Value
  c1 : Array Value
  c2 : Array Value
  A1 : Nat
  A2 : Nat
  S1 : Nat
  S2 : Nat
  d1 : Nat
  d2 : Nat
def TwoJ (K : TwoK) (md : Region.Mode) (ops : Array Oper) (W : World) (f : Nat → Bool) (a : Act) (w : World) : Prop :=
  RegF.Closed md ops f ∧ Below W.heap.size W w ∧ ∃ b1 b2, b1 ≠ b2 ∧ (f K.A1 = true → slot a K.d1 = .pointer (some ⟨b1, 0, none⟩) ∧ W.heap.size ≤ b1 ∧ Blk w b1 (if f K.S1 = true then K.c1 else K.z) K.T) ∧
    (f K.A2 = true → slot a K.d2 = .pointer (some ⟨b2, 0, none⟩) ∧ W.heap.size ≤ b2 ∧ Blk w b2 (if f K.S2 = true then K.c2 else K.z) K.T)
section
variable {K : TwoK} {md : Region.Mode} {ops : Array Oper} {W w : World} {f : Nat → Bool} {a : Act} {k : Nat} {o : Oper}
theorem TwoJ.start (K : TwoK) (md : Region.Mode) (ops : Array Oper) (W : World) (a : Act) : TwoJ K md ops W (fun _ => false) a W.drew :=
  ⟨fun k o ho h => (by cases h), (Below.refl _ _).drew, 0, 1, by decide, fun h => (by cases h), fun h => (by cases h)⟩
theorem TwoJ.other (h : TwoJ K md ops W f a w) (ho : ops[k]? = some o) (hf : Up md k o f) (n1 : k ≠ K.A1) (n2 : k ≠ K.A2) (n3 : k ≠ K.S1) (n4 : k ≠ K.S2) {d : Nat} (h1 : d ≠ K.d1) (h2 : d ≠ K.d2) (u : Value) : TwoJ K md ops W (fset f k) (a.put (some d) u) w := by
  obtain ⟨hc, hb, b1, b2, hne, k1, k2⟩ := h
  refine ⟨RegF.Closed.fset ho ⟨hf, hc⟩, hb, b1, b2, hne, fun hA => ?_, fun hA => ?_⟩
  · rw [fset_ne n1] at hA
    rw [fset_ne n3, slot_put_ne h1]
    exact k1 hA
  · rw [fset_ne n2] at hA
    rw [fset_ne n4, slot_put_ne h2]
    exact k2 hA
theorem TwoJ.mk1 (h : TwoJ K md ops W f a w) (ho : ops[K.A1]? = some o) (hf : Up md K.A1 o f) (hS : f K.S1 = false) (hd : K.d1 < a.tmps.size) (e1 : K.d2 ≠ K.d1) (e2 : K.A1 ≠ K.A2) (e3 : K.A1 ≠ K.S1) (e4 : K.A1 ≠ K.S2) :
    TwoJ K md ops W (fset f K.A1) (a.put (some K.d1) (.pointer (some ⟨w.heap.size, 0, none⟩))) (w.alloc (.cells K.z K.T)) := by
  obtain ⟨hc, hb, b1, b2, hne, k1, k2⟩ := h
  have hb' := hb.alloc hb.size (.cells K.z K.T)
  by_cases hA2 : f K.A2 = true
  · obtain ⟨q1, q2, q3⟩ := k2 hA2
    refine ⟨RegF.Closed.fset ho ⟨hf, hc⟩, hb', w.heap.size, b2, (by have := q3.lt; omega), fun _ => ⟨slot_put hd _, hb.size, ?_⟩, fun _ => ⟨by rw [slot_put_ne e1.symm]; exact q1, q2, ?_⟩⟩
    · rw [fset_ne e3, hS]; exact Blk.new w K.z K.T
    · rw [fset_ne e4]; exact q3.alloc _
  · refine ⟨RegF.Closed.fset ho ⟨hf, hc⟩, hb', w.heap.size, w.heap.size + 1, (by omega), fun _ => ⟨slot_put hd _, hb.size, ?_⟩, fun hA => ?_⟩
    · rw [fset_ne e3, hS]; exact Blk.new w K.z K.T
    · rw [fset_ne e2] at hA; exact absurd hA hA2
theorem TwoJ.mk2 (h : TwoJ K md ops W f a w) (ho : ops[K.A2]? = some o) (hf : Up md K.A2 o f) (hS : f K.S2 = false) (hd : K.d2 < a.tmps.size) (e1 : K.d1 ≠ K.d2) (e2 : K.A2 ≠ K.A1) (e3 : K.A2 ≠ K.S2) (e4 : K.A2 ≠ K.S1) :
    TwoJ K md ops W (fset f K.A2) (a.put (some K.d2) (.pointer (some ⟨w.heap.size, 0, none⟩))) (w.alloc (.cells K.z K.T)) := by
  obtain ⟨hc, hb, b1, b2, hne, k1, k2⟩ := h
  have hb' := hb.alloc hb.size (.cells K.z K.T)
  by_cases hA1 : f K.A1 = true
  · obtain ⟨q1, q2, q3⟩ := k1 hA1
    refine ⟨RegF.Closed.fset ho ⟨hf, hc⟩, hb', b1, w.heap.size, (by have := q3.lt; omega), fun _ => ⟨by rw [slot_put_ne e1.symm]; exact q1, q2, ?_⟩, fun _ => ⟨slot_put hd _, hb.size, ?_⟩⟩
    · rw [fset_ne e4]; exact q3.alloc _
    · rw [fset_ne e3, hS]; exact Blk.new w K.z K.T
  · refine ⟨RegF.Closed.fset ho ⟨hf, hc⟩, hb', w.heap.size + 1, w.heap.size, (by omega), fun hA => ?_, fun _ => ⟨slot_put hd _, hb.size, ?_⟩⟩
    · rw [fset_ne e2] at hA; exact absurd hA hA1
    · rw [fset_ne e3, hS]; exact Blk.new w K.z K.T
theorem ptr_inj {b g : Nat} (h : Value.pointer (some ⟨b, 0, none⟩) = .pointer (some ⟨g, 0, none⟩)) : b = g := by
  simp only [Value.pointer.injEq, Option.some.injEq, Addr.mk.injEq, and_true] at h
  exact h
theorem TwoJ.at1 (h : TwoJ K md ops W f a w) (hA : f K.A1 = true) (hS : f K.S1 = false) {g : Nat} (hs : slot a K.d1 = .pointer (some ⟨g, 0, none⟩)) : Blk w g K.z K.T := by
  obtain ⟨hc, hb, b1, b2, hne, k1, k2⟩ := h
  obtain ⟨q1, q2, q3⟩ := k1 hA
  rw [hS] at q3
  rw [hs] at q1
  rw [ptr_inj q1]; exact q3
theorem TwoJ.at2 (h : TwoJ K md ops W f a w) (hA : f K.A2 = true) (hS : f K.S2 = false) {g : Nat} (hs : slot a K.d2 = .pointer (some ⟨g, 0, none⟩)) : Blk w g K.z K.T := by
  obtain ⟨hc, hb, b1, b2, hne, k1, k2⟩ := h
  obtain ⟨q1, q2, q3⟩ := k2 hA
  rw [hS] at q3
  rw [hs] at q1
  rw [ptr_inj q1]; exact q3
theorem TwoJ.st1 (h : TwoJ K md ops W f a w) (ho : ops[K.S1]? = some o) (hf : Up md K.S1 o f) (hA : f K.A1 = true) {g : Nat} (hs : slot a K.d1 = .pointer (some ⟨g, 0, none⟩)) (u : Value) (e1 : K.S1 ≠ K.A1) (e2 : K.S1 ≠ K.A2) (e3 : K.S1 ≠ K.S2) :
    TwoJ K md ops W (fset f K.S1) (a.put none u) (w.setRow g K.c1) := by
  obtain ⟨hc, hb, b1, b2, hne, k1, k2⟩ := h
  obtain ⟨q1, q2, q3⟩ := k1 hA
  rw [hs] at q1
  obtain rfl := ptr_inj q1
  refine ⟨RegF.Closed.fset ho ⟨hf, hc⟩, hb.trans ((Upd.row _ _ _).below hb.size (fun k hk => by omega)), g, b2, hne, fun _ => ⟨hs, q2, ?_⟩, fun hA2 => ?_⟩
  · rw [fset_eq]; exact Blk.row q3 _
  · rw [fset_ne e2] at hA2
    obtain ⟨p1, p2, p3⟩ := k2 hA2
    rw [fset_ne e3]
    exact ⟨p1, p2, Blk.upd (Upd.row _ _ _) p3 (fun e => hne e.symm)⟩
theorem TwoJ.st2 (h : TwoJ K md ops W f a w) (ho : ops[K.S2]? = some o) (hf : Up md K.S2 o f) (hA : f K.A2 = true) {g : Nat} (hs : slot a K.d2 = .pointer (some ⟨g, 0, none⟩)) (u : Value) (e1 : K.S2 ≠ K.A2) (e2 : K.S2 ≠ K.A1) (e3 : K.S2 ≠ K.S1) :
    TwoJ K md ops W (fset f K.S2) (a.put none u) (w.setRow g K.c2) := by
  obtain ⟨hc, hb, b1, b2, hne, k1, k2⟩ := h
  obtain ⟨q1, q2, q3⟩ := k2 hA
  rw [hs] at q1
  obtain rfl := ptr_inj q1
  refine ⟨RegF.Closed.fset ho ⟨hf, hc⟩, hb.trans ((Upd.row _ _ _).below hb.size (fun k hk => by omega)), b1, g, hne, fun hA1 => ?_, fun _ => ⟨hs, q2, ?_⟩⟩
  · rw [fset_ne e2] at hA1
    obtain ⟨p1, p2, p3⟩ := k1 hA1
    rw [fset_ne e3]
    exact ⟨p1, p2, Blk.upd (Upd.row _ _ _) p3 hne⟩
  · rw [fset_eq]; exact Blk.row q3 _
theorem TwoJ.fin (h : TwoJ K md ops W f a w) (h1 : f K.A1 = true) (h2 : f K.A2 = true) (h3 : f K.S1 = true) (h4 : f K.S2 = true) {g1 g2 : Nat} (hs1 : slot a K.d1 = .pointer (some ⟨g1, 0, none⟩)) (hs2 : slot a K.d2 = .pointer (some ⟨g2, 0, none⟩)) :
    Below W.heap.size W w ∧ Blk w g1 K.c1 K.T ∧ Blk w g2 K.c2 K.T := by
  obtain ⟨hc, hb, b1, b2, hne, k1, k2⟩ := h
  obtain ⟨q1, q2, q3⟩ := k1 h1
  obtain ⟨p1, p2, p3⟩ := k2 h2
  rw [hs1] at q1
  rw [hs2] at p1
  obtain rfl := ptr_inj q1
  obtain rfl := ptr_inj p1
  rw [h3] at q3
  rw [h4] at p3
  exact ⟨hb, q3, p3⟩
end
theorem region_T {P : Program} {id : Nat} {Q : Exit → Act → World → Prop} {a : Act} {w : World} {l : List Oper} (K : TwoK) (Vl : List (Value → Prop)) (hm : P.follows .mixedOrders = true) (hB : Region.lexB .any l.toArray = true)
    (h : wpE P .any l.toArray (TwoJ K .any l.toArray w) (fun s a' => ∀ w', TwoJ K .any l.toArray w (flags s) a' w' → Q .normal a' w') 0 Vl l (Array.replicate l.length false) a) : (Code.region id l.toArray true).wp P Q a w :=
  region_E (TwoJ K .any l.toArray w) Vl hm hB (TwoJ.start K .any l.toArray w a) h
end Go.Proofs.YtefaaginedideaaGreatDoor
