/-
  Two parties beside one another: what each owns, what is kept besides, and the steps of either. Program-independent.
-/
import Derived.Test.YtpajebedeacpgaaOwn
namespace Go.Proofs.Ytpajebedeacpgaa.Pair
set_option linter.unusedSimpArgs false
set_option linter.unusedVariables false
open Go.RowKit Own RegJ

/-- a party: it is so in a world, and owns these blocks -/
structure Party where
  at' : World → (Nat → Prop) → Prop
  lt : ∀ {w : World} {O : Nat → Prop}, at' w O → ∀ k, O k → k < w.heap.size
  keep : ∀ {w w' : World} {O F : Nat → Prop}, at' w O → Upd F w w' → (∀ k, O k → ¬ F k) → at' w' O
/-- a step of a party's -/
def Step (p' : Party) (O : Nat → Prop) (w w' : World) : Prop := ∃ O', p'.at' w' O' ∧ (∀ k, O' k → O k ∨ w.heap.size ≤ k) ∧ Upd O w w'
theorem Step.of_below {p : Party} {O : Nat → Prop} {w w' : World} (h : p.at' w O) (hB : Below w.heap.size w w') : Step p O w w' :=
  ⟨O, p.keep h (Upd.of_below (F := fun _ => False) hB) (fun _ _ h => h), fun k h => Or.inl h, Upd.of_below hB⟩
theorem Step.refl {p : Party} {O : Nat → Prop} {w : World} (h : p.at' w O) : Step p O w w := Step.of_below h (Below.refl _ _)
theorem Step.trans {p q : Party} {O : Nat → Prop} {w w1 w2 : World} (h : Step p O w w1) (k : ∀ O', p.at' w1 O' → Step q O' w1 w2) : Step q O w w2 := by
  obtain ⟨O1, h1, h2, h3⟩ := h
  obtain ⟨O2, g1, g2, g3⟩ := k O1 h1
  have hs := h3.size
  refine ⟨O2, g1, fun k hk => ?_, h3.trans g3 (fun i hi h => (h2 i h).elim id (fun h => by omega))⟩
  rcases g2 k hk with h | h
  · exact h2 k h
  · exact Or.inr (by omega)
structure Two (W w : World) (p q : Party) (E : Nat → Prop) : Prop where
  ex : ∃ O1 O2, p.at' w O1 ∧ q.at' w O2 ∧ (∀ k, O1 k → ¬ O2 k) ∧ (∀ k, O1 k ∨ O2 k → W.heap.size ≤ k ∧ ¬ E k)
  e : ∀ k, E k → W.heap.size ≤ k ∧ k < w.heap.size
  bel : Below W.heap.size W w
section
variable {P : Program} {f : FuncId} {args : Array Value} {W w w' : World} {p p' q q' : Party} {E E' : Nat → Prop}
theorem Two.stepl (h : Two W w p q E) (hs : ∀ O, p.at' w O → Step p' O w w') : Two W w' p' q E ∧ Upd (fun k => ¬ E k) w w' := by
  obtain ⟨O1, O2, h1, h2, h3, h4⟩ := h.ex
  obtain ⟨O', g1, g2, g3⟩ := hs O1 h1
  have hz := g3.size
  have hb := h.bel.size
  refine ⟨⟨⟨O', O2, g1, q.keep h2 g3 (fun k hk hk' => h3 k hk' hk), fun k hk hk' => ?_, fun k hk => ?_⟩, fun k hk => ⟨(h.e k hk).1, by have := (h.e k hk).2; omega⟩, h.bel.trans (g3.below hb (fun k hk => (h4 k (Or.inl hk)).1))⟩, g3.mono (fun k _ hk => (h4 k (Or.inl hk)).2)⟩
  · rcases g2 k hk with h' | h'
    · exact h3 k h' hk'
    · have := q.lt h2 k hk'; omega
  · rcases hk with hk | hk
    · rcases g2 k hk with h' | h'
      · exact h4 k (Or.inl h')
      · exact ⟨by omega, fun he => by have := (h.e k he).2; omega⟩
    · exact h4 k (Or.inr hk)
theorem Two.swap (h : Two W w p q E) : Two W w q p E := by
  obtain ⟨O1, O2, h1, h2, h3, h4⟩ := h.ex
  exact ⟨⟨O2, O1, h2, h1, fun k hk hk' => h3 k hk' hk, fun k hk => h4 k hk.symm⟩, h.e, h.bel⟩
theorem Two.stepr (h : Two W w p q E) (hs : ∀ O, q.at' w O → Step q' O w w') : Two W w' p q' E ∧ Upd (fun k => ¬ E k) w w' := by
  obtain ⟨h1, h2⟩ := h.swap.stepl hs
  exact ⟨h1.swap, h2⟩
theorem Two.left {Q : Ending → Prop} (h : Two W w p q E) (hc : ∀ O, p.at' w O → Calls P f args w (fun e w' => Q e ∧ Step p' O w w')) : Calls P f args w (fun e w' => Q e ∧ Two W w' p' q E ∧ Upd (fun k => ¬ E k) w w') := by
  obtain ⟨O1, O2, h1, h2, h3, h4⟩ := h.ex
  refine (hc O1 h1).mono ?_
  rintro e w' ⟨hQ, hs⟩
  refine ⟨hQ, ?_⟩
  have hz := hs.choose_spec.2.2.size
  obtain ⟨O', g1, g2, g3⟩ := hs
  have hb := h.bel.size
  refine ⟨⟨⟨O', O2, g1, q.keep h2 g3 (fun k hk hk' => h3 k hk' hk), fun k hk hk' => ?_, fun k hk => ?_⟩, fun k hk => ⟨(h.e k hk).1, by have := (h.e k hk).2; omega⟩, h.bel.trans (g3.below hb (fun k hk => (h4 k (Or.inl hk)).1))⟩, g3.mono (fun k _ hk => (h4 k (Or.inl hk)).2)⟩
  · rcases g2 k hk with h' | h'
    · exact h3 k h' hk'
    · have := q.lt h2 k hk'; omega
  · rcases hk with hk | hk
    · rcases g2 k hk with h' | h'
      · exact h4 k (Or.inl h')
      · exact ⟨by omega, fun he => by have := (h.e k he).2; omega⟩
    · exact h4 k (Or.inr hk)
theorem Two.right {Q : Ending → Prop} (h : Two W w p q E) (hc : ∀ O, q.at' w O → Calls P f args w (fun e w' => Q e ∧ Step q' O w w')) : Calls P f args w (fun e w' => Q e ∧ Two W w' p q' E ∧ Upd (fun k => ¬ E k) w w') := by
  refine (h.swap.left hc).mono ?_
  rintro e w' ⟨h1, h2, h3⟩
  exact ⟨h1, h2.swap, h3⟩
theorem Two.below (h : Two W w p q E) (hB : Below w.heap.size w w') : Two W w' p q E := by
  obtain ⟨O1, O2, h1, h2, h3, h4⟩ := h.ex
  have hz := hB.size
  exact ⟨⟨O1, O2, p.keep h1 (Upd.of_below (F := fun _ => False) hB) (fun _ _ h => h), q.keep h2 (Upd.of_below (F := fun _ => False) hB) (fun _ _ h => h), h3, h4⟩, fun k hk => ⟨(h.e k hk).1, by have := (h.e k hk).2; omega⟩, h.bel.trans (hB.mono h.bel.size)⟩
theorem Two.drew (h : Two W w p q E) : Two W w.drew p q E := h.below (((Upd.refl (fun _ => False) w).drew).below (Nat.le_refl _) (fun _ h => h.elim))
theorem Two.drewN (h : Two W w p q E) (n : Nat) : Two W (w.drewN n) p q E := h.below (((Upd.refl (fun _ => False) w).drewN n).below (Nat.le_refl _) (fun _ h => h.elim))
/-- a new block is kept -/
theorem Two.new (h : Two W w p q E) (o : Obj) : Two W (w.alloc o) p q (fun k => E k ∨ k = w.heap.size) := by
  have hB : Below w.heap.size w (w.alloc o) := (Below.refl _ _).alloc (Nat.le_refl _) _
  have h' := h.below hB
  obtain ⟨O1, O2, h1, h2, h3, h4⟩ := h.ex
  have hz := hB.size
  have hb := h.bel.size
  have hs : (w.alloc o).heap.size = w.heap.size + 1 := by simp
  refine ⟨⟨O1, O2, p.keep h1 (Upd.of_below (F := fun _ => False) hB) (fun _ _ h => h), q.keep h2 (Upd.of_below (F := fun _ => False) hB) (fun _ _ h => h), h3, fun k hk => ⟨(h4 k hk).1, fun he => ?_⟩⟩, fun k hk => ?_, h'.bel⟩
  · rcases he with he | he
    · exact (h4 k hk).2 he
    · rcases hk with hk | hk
      · have := p.lt h1 k hk; omega
      · have := q.lt h2 k hk; omega
  · rcases hk with hk | hk
    · have := h.e k hk; omega
    · omega
theorem Two.less (h : Two W w p q E) (hE : ∀ k, E' k → E k) : Two W w p q E' := by
  obtain ⟨O1, O2, h1, h2, h3, h4⟩ := h.ex
  exact ⟨⟨O1, O2, h1, h2, h3, fun k hk => ⟨(h4 k hk).1, fun he => (h4 k hk).2 (hE k he)⟩⟩, fun k hk => h.e k (hE k hk), h.bel⟩
/-- somebody turns kept blocks -/
theorem Two.turn {F : Nat → Prop} (h : Two W w p q E) (hu : Upd F w w') (hF : ∀ k, F k → E k) : Two W w' p q E := by
  obtain ⟨O1, O2, h1, h2, h3, h4⟩ := h.ex
  have hz := hu.size
  exact ⟨⟨O1, O2, p.keep h1 hu (fun k hk hf => (h4 k (Or.inl hk)).2 (hF k hf)), q.keep h2 hu (fun k hk hf => (h4 k (Or.inr hk)).2 (hF k hf)), h3, h4⟩, fun k hk => ⟨(h.e k hk).1, by have := (h.e k hk).2; omega⟩, h.bel.trans (hu.below h.bel.size (fun k hk => (h.e k (hF k hk)).1))⟩
theorem Two.atl (h : Two W w p q E) : ∃ O, p.at' w O := by
  obtain ⟨O1, O2, h1, h2, h3, h4⟩ := h.ex
  exact ⟨O1, h1⟩
theorem Two.atr (h : Two W w p q E) : ∃ O, q.at' w O := by
  obtain ⟨O1, O2, h1, h2, h3, h4⟩ := h.ex
  exact ⟨O2, h2⟩
theorem Two.cell (h : Two W w p q E) {a : Addr} {u : Value} (hc : W.cell? a = some u) : w.cell? a = some u := by
  have hl : a.block < W.heap.size := by
    unfold World.cell? at hc
    rcases Nat.lt_or_ge a.block W.heap.size with h1 | h1
    · exact h1
    · rw [Array.getElem?_eq_none h1] at hc; simp at hc
  rw [h.bel.cell hl]; exact hc
end
end Go.Proofs.Ytpajebedeacpgaa.Pair
