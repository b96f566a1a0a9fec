/-
  Which of the blocks that were there a step may turn, and rows of integers that a call owns: plain facts on worlds.
-/
import Derived.Test.YtjpjafajploiaaaGreatDoorRegJ
import Derived.Laws.AppendOwn
namespace Go.Proofs.YtjpjafajploiaaaGreatDoor.Own
set_option linter.unusedSimpArgs false
set_option linter.unusedVariables false
open Go.RowKit Go.Proofs.YtjpjafajploiaaaGreatDoor.RegJ

/-- of the blocks that were there at most those in F have turned -/
structure Upd (F : Nat → Prop) (w w' : World) : Prop where
  os : w'.os = w.os
  tape : w'.tape = w.tape
  output : w'.output = w.output
  size : w.heap.size ≤ w'.heap.size
  block : ∀ k, k < w.heap.size → ¬ F k → w'.heap[k]? = w.heap[k]?

theorem Upd.refl (F : Nat → Prop) (w : World) : Upd F w w := ⟨rfl, rfl, rfl, Nat.le_refl _, fun _ _ _ => rfl⟩
theorem Upd.trans {F G : Nat → Prop} {a b c : World} (h : Upd F a b) (k : Upd G b c) (hG : ∀ i, i < a.heap.size → G i → F i) : Upd F a c :=
  ⟨k.os.trans h.os, k.tape.trans h.tape, k.output.trans h.output, Nat.le_trans h.size k.size,
   fun i hi hf => (k.block i (Nat.lt_of_lt_of_le hi h.size) (fun hg => hf (hG i hi hg))).trans (h.block i hi hf)⟩
theorem Upd.mono {F G : Nat → Prop} {a b : World} (h : Upd F a b) (hG : ∀ i, i < a.heap.size → F i → G i) : Upd G a b :=
  ⟨h.os, h.tape, h.output, h.size, fun i hi hg => h.block i hi (fun hf => hg (hG i hi hf))⟩
theorem Upd.drew {F : Nat → Prop} {a w : World} (h : Upd F a w) : Upd F a w.drew := ⟨h.os, h.tape, h.output, h.size, h.block⟩
theorem Upd.drewN {F : Nat → Prop} {a w : World} (h : Upd F a w) (n : Nat) : Upd F a (w.drewN n) := ⟨h.os, h.tape, h.output, h.size, h.block⟩
theorem Upd.alloc {F : Nat → Prop} {a w : World} (h : Upd F a w) (o : Obj) : Upd F a (w.alloc o) :=
  ⟨h.os, h.tape, h.output, Nat.le_trans h.size (by simp), fun k hk hf => (Below.heap_alloc _ _ _ (Nat.lt_of_lt_of_le hk h.size)).trans (h.block k hk hf)⟩
theorem Upd.setCell {F : Nat → Prop} {a w : World} (h : Upd F a w) {p : Addr} (hp : p.block < a.heap.size → F p.block) (u : Value) : Upd F a (w.setCell p u) :=
  ⟨h.os, h.tape, h.output, Nat.le_trans h.size (by simp [World.setCell]), fun k hk hf => by
    rw [Below.heap_setCell _ _ _ _ (fun e => hf (by rw [e]; exact hp (e ▸ hk)))]; exact h.block k hk hf⟩
theorem Upd.of_below {F : Nat → Prop} {w w' : World} (h : Below w.heap.size w w') : Upd F w w' := ⟨h.os, h.tape, h.output, h.size, fun k hk _ => h.block k hk⟩
theorem Upd.below {F : Nat → Prop} {B : Nat} {w w' : World} (h : Upd F w w') (hB : B ≤ w.heap.size) (hF : ∀ k, F k → B ≤ k) : Below B w w' :=
  ⟨h.os, h.tape, h.output, h.size, fun k hk => h.block k (Nat.lt_of_lt_of_le hk hB) (fun hf => by have := hF k hf; omega)⟩
theorem Upd.grown {F : Nat → Prop} {w w' : World} {row : Option Nat} (hg : w.grownBy w' row) (hr : ∀ k, row = some k → F k) : Upd F w w' :=
  ⟨hg.os, hg.tape, hg.output, hg.size, fun k hk hf => hg.block k hk (fun e => hf (hr k e.symm))⟩
theorem Blk.upd {F : Nat → Prop} {w w' : World} (hu : Upd F w w') {b : Nat} {cs : Array Value} {T : TypeId} (h : Blk w b cs T) (hf : ¬ F b) : Blk w' b cs T := by
  have hl := h.lt
  unfold Blk at *; rw [hu.block b hl hf]; exact h
theorem upd_heap {F : Nat → Prop} {w w' : World} (hu : Upd F w w') {b : Nat} {o : Obj} (h : w.heap[b]? = some o) (hf : ¬ F b) : w'.heap[b]? = some o := by
  rw [hu.block b (Array.getElem?_eq_some_iff.1 h).1 hf]; exact h

/-- the cells that hold these integers -/
abbrev icells (xs : List Int) : List Value := xs.map (Value.int .i64)

/-- a row of integers in a block of its own (b), or none at all; what stands behind the last one is open -/
def Ints (w : World) (E : TypeId) (v : Value) (xs : List Int) (b : Option Nat) : Prop :=
  (v = .slice none 0 0 ∧ xs = [] ∧ b = none) ∨
  ∃ g cap rest, v = .slice (some ⟨g, 0, none⟩) xs.length cap ∧ b = some g ∧ Blk w g (icells xs ++ rest).toArray E ∧ cap = (icells xs ++ rest).length ∧ cap ≤ maxLen

theorem Ints.keep {w w' : World} {E : TypeId} {v : Value} {xs : List Int} {b : Option Nat} (h : Ints w E v xs b) (hk : ∀ g, b = some g → w'.heap[g]? = w.heap[g]?) : Ints w' E v xs b := by
  rcases h with h | ⟨g, cap, rest, hv, hb, hB, hc, hm⟩
  · exact Or.inl h
  · exact Or.inr ⟨g, cap, rest, hv, hb, by unfold Blk at *; rw [hk g hb]; exact hB, hc, hm⟩
theorem Ints.upd {w w' : World} {F : Nat → Prop} {E : TypeId} {v : Value} {xs : List Int} {b : Option Nat} (h : Ints w E v xs b) (hu : Upd F w w') (hf : ∀ g, b = some g → ¬ F g) : Ints w' E v xs b := by
  rcases h with h | ⟨g, cap, rest, hv, hb, hB, hc, hm⟩
  · exact Or.inl h
  · exact Or.inr ⟨g, cap, rest, hv, hb, Blk.upd hu hB (hf g hb), hc, hm⟩
theorem Ints.lt {w : World} {E : TypeId} {v : Value} {xs : List Int} {b : Option Nat} (h : Ints w E v xs b) (g : Nat) (hg : b = some g) : g < w.heap.size := by
  rcases h with ⟨_, _, hb⟩ | ⟨g', cap, rest, hv, hb, hB, hc, hm⟩
  · rw [hb] at hg; cases hg
  · rw [hb] at hg; cases hg; exact hB.lt
theorem Ints.len {w : World} {E : TypeId} {v : Value} {xs : List Int} {b : Option Nat} (h : Ints w E v xs b) : xs.length ≤ maxLen := by
  rcases h with ⟨_, h, _⟩ | ⟨g, cap, rest, hv, hb, hB, hc, hm⟩
  · rw [h]; exact Nat.zero_le _
  · rw [hc] at hm; simp at hm; omega
theorem getD_cells (xs : List Int) (j : Nat) (h : j < xs.length) : (icells xs)[j]? = some (Value.int .i64 (xs.getD j 0)) := by
  simp [h]
/-- the cells of such a row, one by one -/
theorem Ints.cells {w : World} {g : Nat} {E : TypeId} {xs : List Int} {rest : List Value} (hB : Blk w g (icells xs ++ rest).toArray E) (j : Nat) (h : j < xs.length) : w.cell? ⟨g, 0 + j, none⟩ = some (.int .i64 (xs.getD j 0)) := by
  rw [hB.rd, Nat.zero_add]
  rw [List.getElem?_toArray, List.getElem?_append_left (by simpa using h)]
  exact getD_cells xs j h
/-- out of the library's own words -/
theorem Ints.of_own {w : World} {base : Nat} {E : TypeId} {v : Value} {n : Nat} {xs : List Int} (h : w.ownsRow base E 1 v n (icells xs)) : ∃ b, Ints w E v xs b ∧ ∀ g, b = some g → base ≤ g := by
  obtain ⟨hl, h⟩ := h
  have hn : xs.length = n := by simpa using hl
  rcases h with ⟨hv, h0⟩ | ⟨g, cap, cur, hv, hg, hh, hnc, hm, hs, ht⟩
  · refine ⟨none, Or.inl ⟨hv, ?_, rfl⟩, fun g hg => by cases hg⟩
    apply List.eq_nil_of_length_eq_zero; omega
  · refine ⟨some g, Or.inr ⟨g, cap, cur.toList.drop n, by rw [hn]; exact hv, rfl, ?_, ?_, hm⟩, fun g' hg' => by cases hg'; exact hg⟩
    · show w.heap[g]? = _
      rw [hh]
      have e : icells xs ++ cur.toList.drop n = cur.toList := by
        rw [Nat.mul_one] at ht
        rw [← ht]; exact List.take_append_drop n cur.toList
      rw [e]
    · have hcs : cur.toList.length = cap := by simpa using hs
      simp [hn, hcs]; omega
theorem Ints.own {w : World} {base : Nat} {E : TypeId} {v : Value} {xs : List Int} {b : Option Nat} (h : Ints w E v xs b) (hb : ∀ g, b = some g → base ≤ g) : w.ownsRow base E 1 v xs.length (icells xs) := by
  refine ⟨by simp, ?_⟩
  rcases h with ⟨hv, h0, _⟩ | ⟨g, cap, rest, hv, hg, hB, hc, hm⟩
  · exact Or.inl ⟨hv, by rw [h0]; rfl⟩
  · refine Or.inr ⟨g, cap, _, hv, hb g hg, hB, by rw [hc]; simp, hm, by rw [hc]; simp, ?_⟩
    simp
/-- several cells stored, one behind the other -/
theorem Blk.sets {w : World} {b : Nat} {T : TypeId} : ∀ (vs : List Value) (l : List Value) (o : Nat), Blk w b l.toArray T → o + vs.length ≤ l.length → Blk (w.setCells b o vs) b (l.take o ++ vs ++ l.drop (o + vs.length)).toArray T := by
  intro vs
  induction vs generalizing w with
  | nil => intro l o h hl; simpa [World.setCells] using h
  | cons v r ih =>
    intro l o h hl
    simp only [List.length_cons] at hl
    have h1 := h.set o v
    have e : l.toArray.setIfInBounds o v = (l.set o v).toArray := by simp
    rw [e] at h1
    have h2 := ih (l.set o v) (o + 1) h1 (by simp; omega)
    refine Blk.of h2 ?_
    congr 1
    have e1 : (l.set o v).take (o + 1) = l.take o ++ [v] := by
      rw [List.take_set, List.take_succ_eq_append_getElem (by omega)]
      rw [List.set_append_right _ _ (by simp; omega)]
      congr 1
      have : o - (l.take o).length = 0 := by simp; omega
      rw [this]; rfl
    have e2 : (l.set o v).drop (o + 1 + r.length) = l.drop (o + (r.length + 1)) := by
      rw [List.drop_set_of_lt (by omega)]; congr 1; omega
    rw [e1, e2]; simp
theorem Upd.sets {F : Nat → Prop} {a : World} : ∀ (vs : List Value) (w : World) (b o : Nat), Upd F a w → (b < a.heap.size → F b) → Upd F a (w.setCells b o vs)
  | [], _, _, _, h, _ => h
  | v :: r, w, b, o, h, hb => Upd.sets r _ b (o + 1) (h.setCell (p := ⟨b, o, none⟩) hb v) hb
end Go.Proofs.YtjpjafajploiaaaGreatDoor.Own
